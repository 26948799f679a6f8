/- A pack of texts: WdF, WdG, WdH, WdI, WdJ, WdK, WdL, WdM, WoB -/
import Derived.Test.YtodbmeklbamcfaaGreatPkKnownR
import Derived.WideLaws
import Derived.Deep.RegionHeld3
import Derived.Test.YtodbmeklbamcfaaGreatPkKnownE
/- Package word's reader: 'try', its deferred closure, and what is tried. -/
namespace Go.Proofs.YtodbmeklbamcfaaGreat
open Go.RowKit Go.Rt

theorem as_gone (e a : Int) (w : World) : (Instr.typeAssert (.iface 200 (.agg #[.int .i64 e, .int .i64 a])) 20 200 true).run Tryz.prog w = .ok (.tuple #[.agg #[.int .i64 e, .int .i64 a], .bool true]) w := by
  kernel_rfl

/-- recover, as a region of its own. -/
theorem wpS_recover {P : Program} {Q : Exit → Act → List Frame → World → Prop} {a : Act} {cs : List Frame} {w : World} {id d : Nat} {t : TypeId} {pos : String}
    (h : match recoverD cs with
      | some (v, cs') => Q .normal (a.put (some d) v) cs' w
      | none => Q .normal (a.put (some d) .nilIface) cs w) :
    (Code.region id #[{ dst := some d, op := .call { callee := .builtin .recover, args := #[], argTypes := #[] }, type := t, pos := pos, after := #[], guard := none }] false).wpS P Q a cs w := by
  apply wpS_region
  have hr : (execOp a.eval { dst := some d, op := .call { callee := .builtin .recover, args := #[], argTypes := #[] }, type := t, pos := pos, after := #[], guard := none }).run P w = .ok .recover w := by
    simp [execOp, resolve, invoke, builtin]
  show wpOpsS P _ Q [0] a cs w
  simp only [wpOpsS, List.getElem?_toArray, List.getElem?_cons_zero, Region.wanted, if_true, hr]
  cases hc : recoverD cs with
  | none => rw [hc] at h; exact h
  | some x => rw [hc] at h; exact h

theorem try1_idle {W w : World} {l : List SL} (fb ab rb : Nat) (x : Bool) (H : Sat W w (pt fb #[.bool x] 4 :: l)) :
    CallsD Tryz.prog 165 #[.pointer (some ⟨fb, 0, none⟩), .pointer (some ⟨ab, 0, none⟩), .pointer (some ⟨rb, 0, none⟩)] .returning w fun e u' w' =>
      e = .returned (.tuple #[]) ∧ u' = .returning ∧ Sat W w' (pt fb #[.bool true] 4 :: l) := by
  have hc : w.cell? ⟨fb, 0, none⟩ = some (.bool x) := H.cell 0
  have hf := H.frz 0
  refine callsD_of_wpS Tryz.func165 rfl fun c₀ cs hu => ?_
  apply wpS_seq
  apply wpS_recover
  have hrec : recoverD (c₀ :: cs) = none := by simp [recoverD, hu]
  rw [hrec]
  show Code.wpS _ _ _ _ _ _
  refine wpS_of_wp ?_
  simp only [Act.put, Tryz.ntmps165, List.size_toArray, List.length_cons, List.length_nil, Nat.reduceAdd, Nat.reduceSub, Array.replicate_succ,
     Array.replicate_zero, List.push_toArray, List.append_toArray, List.nil_append, List.cons_append]
  go_wp2
  exact ⟨rfl, .returning, by rw [← hu], _, results_none rfl _ _ _, rfl, rfl, by simpa using H.setCell 0 (.bool true)⟩

set_option maxRecDepth 100000 in
theorem try1_gone {W w : World} {l : List SL} (fb ab rb : Nat) (p : Nat) (bs : List UInt8) (pl pl' : Nat) (e a : Int) (x : Bool)
    (H : Sat W w (pt fb #[.bool x] 4 :: pt ab #[.int .i64 pl] 3 :: pt rb #[.pointer (some ⟨p, 0, none⟩)] 106 :: rdr p bs pl' 0 0 :: l)) :
    CallsD Tryz.prog 165 #[.pointer (some ⟨fb, 0, none⟩), .pointer (some ⟨ab, 0, none⟩), .pointer (some ⟨rb, 0, none⟩)] (.panicking (gone e a)) w fun en u' w' =>
      en = .returned (.tuple #[]) ∧ u' = .panicking [{ v := .iface 200 (.agg #[.int .i64 e, .int .i64 a]), recovered := true }] ∧
      Sat W w' (pt fb #[.bool x] 4 :: pt ab #[.int .i64 pl] 3 :: pt rb #[.pointer (some ⟨p, 0, none⟩)] 106 :: rdr p bs pl e a :: l) := by
  have hag := as_gone e a
  refine callsD_of_wpS Tryz.func165 rfl fun c₀ cs hu => ?_
  apply wpS_seq
  apply wpS_recover
  have hrec : recoverD (c₀ :: cs) = some (.iface 200 (.agg #[.int .i64 e, .int .i64 a]), { c₀ with mode := .panicking ({ v := .iface 200 (.agg #[.int .i64 e, .int .i64 a]), recovered := true } :: []) } :: cs) := by
    simp only [recoverD, hu, gone]
  rw [hrec]
  show Code.wpS _ _ _ _ _ _
  refine wpS_of_wp ?_
  simp only [Act.put, Tryz.ntmps165, List.size_toArray, List.length_cons, List.length_nil, Nat.reduceAdd, Nat.reduceSub, Array.replicate_succ,
     Array.replicate_zero, List.push_toArray, List.append_toArray, List.nil_append, List.cons_append]
  clear hrec hu
  go_wp2
  have H0 := H.alloc #[.int .i64 e, .int .i64 a] 200
  generalize w.heap.size = gb at H0 ⊢
  generalize w.alloc _ = wo at H0 ⊢
  clear hag H
  have hg0 : wo.cell? ⟨gb, 0, none⟩ = some (.int .i64 e) := H0.cell 0
  have hg1 : wo.cell? ⟨gb, 1, none⟩ = some (.int .i64 a) := H0.cell 1
  have hr : wo.cell? ⟨rb, 0, none⟩ = some (.pointer (some ⟨p, 0, none⟩)) := (H0.pull 3).cell 0
  have ha : wo.cell? ⟨ab, 0, none⟩ = some (.int .i64 pl) := (H0.pull 2).cell 0
  obtain ⟨A, c, H1⟩ := rdr_open (H0.pull 4)
  have h2 : wo.cell? ⟨p, 2, none⟩ = some (.int .i64 0) := H1.cell 2
  have h3 : wo.cell? ⟨p, 3, none⟩ = some (.int .i64 0) := H1.cell 3
  have h4 : wo.cell? ⟨p, 4, none⟩ = some (.int .i64 pl') := H1.cell 4
  have f2 := H1.frz 2
  have f3 := H1.frz 3
  have f4 := H1.frz 4
  go_region
  go_wp2
  refine ⟨rfl, _, rfl, _, results_none rfl _ _ _, rfl, rfl, ?_⟩
  have H2 := (((H1.setCell 4 (.int .i64 pl)).setCell 2 (.int .i64 e)).setCell 3 (.int .i64 a)).drew
  have H3 : Sat W _ (rdr p bs pl e a :: _) := rdr_shut (A := A) (c := c) (by simpa using H2)
  exact (H3.swap.tail).sink [pt fb #[.bool x] 4, pt ab #[.int .i64 pl] 3, pt rb #[.pointer (some ⟨p, 0, none⟩)] 106]

theorem perm_in (a b c r : SL) (X l : List SL) : (a :: b :: c :: r :: (X ++ l)).Perm (r :: (X ++ (a :: b :: c :: l))) := by
  have h1 : (X ++ (a :: b :: c :: l)).Perm (a :: b :: c :: (X ++ l)) :=
    List.perm_middle.trans ((List.perm_middle.trans ((List.perm_middle).cons b)).cons a)
  have h2 : (a :: b :: c :: r :: (X ++ l)).Perm (r :: a :: b :: c :: (X ++ l)) :=
    ((((List.Perm.swap r c _).cons b).trans (List.Perm.swap r b _)).cons a).trans (List.Perm.swap r a _)
  exact h2.trans ((h1.symm).cons r)

set_option maxRecDepth 100000 in
theorem try_fine {W w : World} {l : List SL} (p : Nat) (bs : List UInt8) (pl pl1 : Nat) (fid : Nat) (caps : Array Value) (X X1 : List SL)
    (hf : ∀ (L : List SL) (w1 : World), Sat W w1 (rdr p bs pl 0 0 :: (X ++ L)) → Calls Tryz.prog fid caps w1 fun e w' => e = .returned (.tuple #[]) ∧ Sat W w' (rdr p bs pl1 0 0 :: (X1 ++ L)))
    (hfn : ∀ w1 : World, (callFunc fid caps).run Tryz.prog w1 = .ok (.enter fid caps) w1)
    (H : Sat W w (rdr p bs pl 0 0 :: (X ++ l))) :
    Calls Tryz.prog 121 #[.pointer (some ⟨p, 0, none⟩), .func (.func fid) #[] caps] w fun e w' => e = .returned (.bool true) ∧ Sat W w' (rdr p bs pl1 0 0 :: (X1 ++ l)) := by
  have hmf : ∀ (fn : Fn) (first cap : Array Value) (w : World), (Instr.makeFunc fn first cap).run Tryz.prog w = .ok (.func fn first cap) w := fun _ _ _ _ => rfl
  have H0 := ((H.alloc #[.pointer (some ⟨p, 0, none⟩)] 106).alloc #[.bool false] 4)
  rw [World.size_alloc] at H0
  obtain ⟨A, c, H1⟩ := rdr_open (H0.pull 2)
  have hc0 := H1.cell 0
  have hc2 := H1.cell 2
  have hc4 := H1.cell 4
  have hcr := (H0.pull 1).cell 0
  have hcf := H0.cell 0
  have hff := H0.frz 0
  go_enter_defers Tryz.func121, Tryz.ntmps121
  go_wp2_with fail
  generalize (w.alloc _).alloc _ = wo at *
  generalize w.heap.size = q at *
  have hc0' : wo.cell? ⟨p, 0, none⟩ = some (.bool true) := hc0
  have hc2' : wo.cell? ⟨p, 2, none⟩ = some (.int .i64 0) := hc2
  have hc4' : wo.cell? ⟨p, 4, none⟩ = some (.int .i64 pl) := hc4
  have hcr' : wo.cell? ⟨q, 0, none⟩ = some (.pointer (some ⟨p, 0, none⟩)) := hcr
  have hcf' : wo.cell? ⟨q + 1, 0, none⟩ = some (.bool false) := hcf
  clear hc0 hc2 hc4 hcr hcf H1
  refine (none_any p 0 true wo hc0').mono ?_
  rintro e w' ⟨rfl, rfl⟩
  have HF := Lib.hid hf
  clear hf
  go_wp2_with fail
  have H3 := ((H0.alloc #[.int .i64 pl] 3).perm (perm_in _ _ _ _ X l))
  refine (HF.out _ _ H3).mono ?_
  rintro e w2 ⟨rfl, H4⟩
  go_wp2
  have H5 := H4.perm (perm_in _ _ _ _ X1 l).symm
  generalize wo.heap.size = q2 at *
  refine leaves_cons (f := 165) (args := #[.pointer (some ⟨q + 1, 0, none⟩), .pointer (some ⟨q2, 0, none⟩), .pointer (some ⟨q, 0, none⟩)]) (by simp) (by simp [go_sem]) ?_
  refine (try1_idle (q + 1) q2 q false H5.swap).mono ?_
  rintro e u' w3 ⟨rfl, rfl, H6⟩
  have hq : w3.cell? ⟨q + 1, 0, none⟩ = some (.bool true) := H6.cell 0
  refine ⟨.bool true, ?_, rfl, H6.tail.tail.tail⟩
  simp [results, Tryz.results121, go_sem, hq]
set_option maxRecDepth 100000 in
theorem try_gone {W w : World} {l : List SL} (p : Nat) (bs : List UInt8) (pl : Nat) (er ea : Int) (fid : Nat) (caps : Array Value) (X X1 : List SL)
    (hf : ∀ (L : List SL) (w1 : World), Sat W w1 (rdr p bs pl 0 0 :: (X ++ L)) → Calls Tryz.prog fid caps w1 fun e w' => e = .panicked (gone er ea) ∧ ∃ pl', Sat W w' (rdr p bs pl' 0 0 :: (X1 ++ L)))
    (hfn : ∀ w1 : World, (callFunc fid caps).run Tryz.prog w1 = .ok (.enter fid caps) w1)
    (H : Sat W w (rdr p bs pl 0 0 :: (X ++ l))) :
    Calls Tryz.prog 121 #[.pointer (some ⟨p, 0, none⟩), .func (.func fid) #[] caps] w fun e w' => e = .returned (.bool false) ∧ Sat W w' (rdr p bs pl er ea :: (X1 ++ l)) := by
  have hmf : ∀ (fn : Fn) (first cap : Array Value) (w : World), (Instr.makeFunc fn first cap).run Tryz.prog w = .ok (.func fn first cap) w := fun _ _ _ _ => rfl
  have H0 := ((H.alloc #[.pointer (some ⟨p, 0, none⟩)] 106).alloc #[.bool false] 4)
  rw [World.size_alloc] at H0
  obtain ⟨A, c, H1⟩ := rdr_open (H0.pull 2)
  have hc0 := H1.cell 0
  have hc2 := H1.cell 2
  have hc4 := H1.cell 4
  have hcr := (H0.pull 1).cell 0
  have hcf := H0.cell 0
  have hff := H0.frz 0
  go_enter_defers Tryz.func121, Tryz.ntmps121
  go_wp2_with fail
  generalize (w.alloc _).alloc _ = wo at *
  generalize w.heap.size = q at *
  have hc0' : wo.cell? ⟨p, 0, none⟩ = some (.bool true) := hc0
  have hc2' : wo.cell? ⟨p, 2, none⟩ = some (.int .i64 0) := hc2
  have hc4' : wo.cell? ⟨p, 4, none⟩ = some (.int .i64 pl) := hc4
  have hcr' : wo.cell? ⟨q, 0, none⟩ = some (.pointer (some ⟨p, 0, none⟩)) := hcr
  have hcf' : wo.cell? ⟨q + 1, 0, none⟩ = some (.bool false) := hcf
  clear hc0 hc2 hc4 hcr hcf H1
  refine (none_any p 0 true wo hc0').mono ?_
  rintro e w' ⟨rfl, rfl⟩
  have HF := Lib.hid hf
  clear hf
  go_wp2_with fail
  have H3 := ((H0.alloc #[.int .i64 pl] 3).perm (perm_in _ _ _ _ X l))
  refine (HF.out _ _ H3).mono ?_
  rintro e w2 ⟨rfl, pl', H4⟩
  have H5 := H4.perm (perm_in _ _ _ _ X1 l).symm
  generalize wo.heap.size = q2 at *
  go_wp2
  refine leaves_cons (f := 165) (args := #[.pointer (some ⟨q + 1, 0, none⟩), .pointer (some ⟨q2, 0, none⟩), .pointer (some ⟨q, 0, none⟩)]) (by simp) (by simp [go_sem]) ?_
  refine (try1_gone (q + 1) q2 q p bs pl pl' er ea false H5.swap).mono ?_
  rintro e u' w3 ⟨rfl, rfl, H6⟩
  have hq : w3.cell? ⟨q + 1, 0, none⟩ = some (.bool false) := H6.cell 0
  refine ⟨.bool false, ?_, rfl, H6.tail.tail.tail⟩
  simp [results, Tryz.results121, go_sem, hq]

set_option maxRecDepth 100000 in
/-- A reader with a fault, or that is none, tries nothing. -/
theorem try_stuck {W w : World} {l : List SL} (p : Nat) (bs : List UInt8) (pl : Nat) (er ea : Int) (f : Value) (hne : ¬ er = 0) (H : Sat W w (rdr p bs pl er ea :: l)) :
    Calls Tryz.prog 121 #[.pointer (some ⟨p, 0, none⟩), f] w fun e w' => e = .returned (.bool false) ∧ Sat W w' (rdr p bs pl er ea :: l) := by
  have H0 := ((H.alloc #[.pointer (some ⟨p, 0, none⟩)] 106).alloc #[.bool false] 4)
  rw [World.size_alloc] at H0
  obtain ⟨A, c, H1⟩ := rdr_open (H0.pull 2)
  have hc0 := H1.cell 0
  have hc2 := H1.cell 2
  have hcr := (H0.pull 1).cell 0
  have hcf := H0.cell 0
  have hff := H0.frz 0
  have hneb : (er == 0) = false := by simpa using hne
  go_enter_defers Tryz.func121, Tryz.ntmps121
  go_wp2_with fail
  generalize (w.alloc _).alloc _ = wo at *
  generalize w.heap.size = q at *
  have hc0' : wo.cell? ⟨p, 0, none⟩ = some (.bool true) := hc0
  have hc2' : wo.cell? ⟨p, 2, none⟩ = some (.int .i64 er) := hc2
  have hcr' : wo.cell? ⟨q, 0, none⟩ = some (.pointer (some ⟨p, 0, none⟩)) := hcr
  have hcf' : wo.cell? ⟨q + 1, 0, none⟩ = some (.bool false) := hcf
  clear hc0 hc2 hcr hcf H1
  refine (none_any p 0 true wo hc0').mono ?_
  rintro e w' ⟨rfl, rfl⟩
  go_wp2
  have H2 := H0.setCell 0 (.bool false)
  generalize wo.setCell _ _ = w2 at H2 ⊢
  have hq : w2.cell? ⟨q + 1, 0, none⟩ = some (.bool false) := H2.cell 0
  refine ⟨.bool false, ?_, rfl, H2.tail.tail⟩
  simp [results, Tryz.results121, go_sem, hq]

set_option maxRecDepth 100000 in
/-- No reader: nil, or one that Open did not make. -/
theorem try_none (f : Value) (w : World) : Calls Tryz.prog 121 #[.pointer none, f] w fun e w' => e = .returned (.bool false) ∧ Below w.heap.size w w' := by
  go_enter_defers Tryz.func121, Tryz.ntmps121
  go_wp2
  refine ⟨.bool false, ?_, rfl, ((Below.refl _ _).alloc (Nat.le_refl _) _).alloc (by simp) _⟩
  simp [results, Tryz.results121, go_sem]
set_option maxRecDepth 100000 in
theorem try_off (p : Nat) (f : Value) (w : World) (hc : w.cell? ⟨p, 0, none⟩ = some (.bool false)) : Calls Tryz.prog 121 #[.pointer (some ⟨p, 0, none⟩), f] w fun e w' => e = .returned (.bool false) ∧ Below w.heap.size w w' := by
  have hlt := World.block_lt_of_cell? _ _ hc
  have hc' : ((w.alloc (.cells #[.pointer (some ⟨p, 0, none⟩)] 106)).alloc (.cells #[.bool false] 4)).cell? ⟨p, 0, none⟩ = some (.bool false) := by
    rw [World.cell?_alloc_lt _ _ _ (show p < (w.alloc _).heap.size by rw [World.size_alloc]; exact Nat.lt_succ_of_lt hlt), World.cell?_alloc_lt _ _ _ hlt]; exact hc
  go_enter_defers Tryz.func121, Tryz.ntmps121
  go_wp2_with fail
  refine (none_any p 0 false _ hc').mono ?_
  rintro e w' ⟨rfl, rfl⟩
  go_wp2
  refine ⟨.bool false, ?_, rfl, ((Below.refl _ _).alloc (Nat.le_refl _) _).alloc (by simp) _⟩
  simp [results, Tryz.results121, go_sem]
end Go.Proofs.YtodbmeklbamcfaaGreat

/- Package word's reader: Int and Count. -/
namespace Go.Proofs.YtodbmeklbamcfaaGreat
open Go.RowKit Go.Rt

set_option maxRecDepth 100000 in
theorem rInt1_any {W w : World} {l : List SL} (b1 b2 b3 b4 : Nat) (p : Nat) (bs : List UInt8) (pl : Nat) (low high : Int) (hp : pl ≤ bs.length) (hb : bs.length ≤ 1000000000)
    (H : Sat W w (rdr p bs pl 0 0 :: ([pt b4 #[.int .i64 0] 3, pt b3 #[.int .i64 high] 3, pt b2 #[.int .i64 low] 3, pt b1 #[.pointer (some ⟨p, 0, none⟩)] 106] ++ l))) :
    Calls Tryz.prog 122 #[.pointer (some ⟨b1, 0, none⟩), .pointer (some ⟨b2, 0, none⟩), .pointer (some ⟨b3, 0, none⟩), .pointer (some ⟨b4, 0, none⟩)] w fun e w' =>
      match numAt bs pl low high 5 with
      | .ok n k => e = .returned (.tuple #[]) ∧ Sat W w' (rdr p bs (pl + k) 0 0 :: ([pt b4 #[.int .i64 n] 3, pt b3 #[.int .i64 high] 3, pt b2 #[.int .i64 low] 3, pt b1 #[.pointer (some ⟨p, 0, none⟩)] 106] ++ l))
      | .bad fe fa => e = .panicked (gone fe fa) ∧ ∃ pl', Sat W w' (rdr p bs pl' 0 0 :: ([pt b4 #[.int .i64 0] 3, pt b3 #[.int .i64 high] 3, pt b2 #[.int .i64 low] 3, pt b1 #[.pointer (some ⟨p, 0, none⟩)] 106] ++ l)) := by
  have h1 : w.cell? ⟨b1, 0, none⟩ = some (.pointer (some ⟨p, 0, none⟩)) := (H.pull 4).cell 0
  have h2 : w.cell? ⟨b2, 0, none⟩ = some (.int .i64 low) := (H.pull 3).cell 0
  have h3 : w.cell? ⟨b3, 0, none⟩ = some (.int .i64 high) := (H.pull 2).cell 0
  have hn := number_any low high 5 hp hb H
  generalize numAt bs pl low high 5 = r at hn ⊢
  have HN := Lib.hid hn
  clear hn
  cases r with
  | bad fe fa =>
    go_enter Tryz.func122, Tryz.ntmps122
    go_wp2_with fail
    refine HN.out.mono ?_
    rintro e w1 ⟨rfl, h⟩
    exact ⟨rfl, rfl, h⟩
  | ok n k =>
    go_enter Tryz.func122, Tryz.ntmps122
    go_wp2_with fail
    refine HN.out.mono ?_
    rintro e w1 ⟨rfl, H1, hk⟩
    have h4 : w1.cell? ⟨b4, 0, none⟩ = some (.int .i64 0) := (H1.pull 1).cell 0
    have f4 := (H1.pull 1).frz 0
    go_wp2
    go_end0
    exact ⟨rfl, ((H1.swap).setCell 0 (.int .i64 n)).swap⟩

/-- What a reader tells and becomes: a result, its place and its fault. -/
structure Told where
  n : Int
  pl : Nat
  fe : Int
  fa : Int
def toldInt (bs : List UInt8) (pl : Nat) (fe fa : Int) (low high above : Int) : Told :=
  if fe = 0 then (match numAt bs pl low high above with
    | .ok n k => ⟨n, pl + k, 0, 0⟩
    | .bad e a => ⟨0, pl, e, a⟩) else ⟨0, pl, fe, fa⟩

set_option maxRecDepth 100000 in
theorem rInt_any {W w : World} {l : List SL} (p : Nat) (bs : List UInt8) (pl : Nat) (fe fa : Int) (low high : Int) (hp : pl ≤ bs.length) (hb : bs.length ≤ 1000000000) (hf : fe = 0 → fa = 0)
    (H : Sat W w (rdr p bs pl fe fa :: l)) :
    Calls Tryz.prog 84 #[.pointer (some ⟨p, 0, none⟩), .int .i64 low, .int .i64 high] w fun e w' =>
      e = .returned (.int .i64 (toldInt bs pl fe fa low high 5).n) ∧ Sat W w' (rdr p bs (toldInt bs pl fe fa low high 5).pl (toldInt bs pl fe fa low high 5).fe (toldInt bs pl fe fa low high 5).fa :: l) := by
  have hmf : ∀ (fn : Fn) (first cap : Array Value) (w : World), (Instr.makeFunc fn first cap).run Tryz.prog w = .ok (.func fn first cap) w := fun _ _ _ _ => rfl
  have H0 := ((((H.alloc #[.pointer (some ⟨p, 0, none⟩)] 106).alloc #[.int .i64 low] 3).alloc #[.int .i64 high] 3).alloc #[.int .i64 0] 3)
  simp only [World.size_alloc] at H0
  obtain ⟨T, HT⟩ : ∃ T, Hid (toldInt bs pl fe fa low high 5 = T) := ⟨_, rfl⟩
  rw [HT.out]
  go_enter Tryz.func84, Tryz.ntmps84
  go_wp2_with fail
  generalize (((w.alloc _).alloc _).alloc _).alloc _ = wo at *
  generalize w.heap.size + 1 + 1 + 1 = b4 at *
  generalize w.heap.size + 1 + 1 = b3 at *
  generalize w.heap.size + 1 = b2 at *
  generalize w.heap.size = b1 at *
  have H1 : Sat W wo (rdr p bs pl fe fa :: ([pt b4 #[.int .i64 0] 3, pt b3 #[.int .i64 high] 3, pt b2 #[.int .i64 low] 3, pt b1 #[.pointer (some ⟨p, 0, none⟩)] 106] ++ l)) := H0.pull 4
  clear H0 hmf
  by_cases h0 : fe = 0
  · subst h0
    obtain rfl := hf rfl
    have hI := fun (L : List SL) (w1 : World) (h : Sat W w1 (rdr p bs pl 0 0 :: ([pt b4 #[.int .i64 0] 3, pt b3 #[.int .i64 high] 3, pt b2 #[.int .i64 low] 3, pt b1 #[.pointer (some ⟨p, 0, none⟩)] 106] ++ L))) => rInt1_any b1 b2 b3 b4 p bs pl low high hp hb h
    have ht : T = (match numAt bs pl low high 5 with | .ok n k => ⟨n, pl + k, 0, 0⟩ | .bad e a => ⟨0, pl, e, a⟩) := HT.out.symm
    clear HT hf
    generalize numAt bs pl low high 5 = r at hI ht
    have HI := Lib.hid hI
    clear hI
    cases r with
    | ok n k =>
      obtain rfl : T = ⟨n, pl + k, 0, 0⟩ := ht
      refine (try_fine p bs pl (pl + k) 122 _ _ _ HI.out (fun w1 => by simp [go_sem]) H1).mono ?_
      rintro e w2 ⟨rfl, H2⟩
      have hc : w2.cell? ⟨b4, 0, none⟩ = some (.int .i64 n) := (H2.pull 1).cell 0
      go_wp2
      go_ret
      exact ⟨rfl, H2.swap.tail.swap.tail.swap.tail.swap.tail⟩
    | bad er ea =>
      obtain rfl : T = ⟨0, pl, er, ea⟩ := ht
      refine (try_gone p bs pl er ea 122 _ _ _ HI.out (fun w1 => by simp [go_sem]) H1).mono ?_
      rintro e w2 ⟨rfl, H2⟩
      go_wp2
      go_ret
      exact ⟨rfl, H2.swap.tail.swap.tail.swap.tail.swap.tail⟩
  · obtain rfl : T = ⟨0, pl, fe, fa⟩ := by rw [← HT.out]; simp only [toldInt]; rw [if_neg h0]
    clear HT
    refine (try_stuck p bs pl fe fa _ h0 H1).mono ?_
    rintro e w2 ⟨rfl, H2⟩
    go_wp2
    go_ret
    exact ⟨rfl, H2.swap.tail.swap.tail.swap.tail.swap.tail⟩
end Go.Proofs.YtodbmeklbamcfaaGreat

/- The laws' own helpers over package word: a thing is written. -/
namespace Go.Proofs.YtodbmeklbamcfaaGreat
open Go.RowKit Go.Rt

/-- A thing: its kind, its number, its text, its ID. -/
structure Th where
  k : Int
  n : Int
  s : ByteArray
  d : List UInt8
structure Th.Ok (x : Th) : Prop where
  n : x.n ≤ 9223372036854775807
  s : x.s.size ≤ 1000000000
  d : x.d.length = 32
def Th.cs (x : Th) : List Value := .int .i64 x.k :: .int .i64 x.n :: .string x.s :: x.d.map B
def Th.v (x : Th) : Value := .agg x.cs.toArray
def Th.put (x : Th) (bs : List UInt8) : List UInt8 :=
  if x.k = 0 then wrInt x.n bs else if x.k = 1 then bs ++ sev x.s.size ++ x.s.data.toList else if x.k = 2 then bs ++ x.d else bs
def Th.bad (x : Th) : Bool := decide (x.k = 0) && decide (x.n < 0)

end Go.Proofs.YtodbmeklbamcfaaGreat

/- The laws' own helpers over package word: all things are written. -/
namespace Go.Proofs.YtodbmeklbamcfaaGreat
open Go.RowKit Go.Rt

/-- The cells of things in a row. -/
def thC (ts : List Th) : List Value := ts.flatMap Th.cs
/-- What a thing takes at most. -/
def Th.wt (x : Th) : Nat := x.s.size + 41
def wts (ts : List Th) : Nat := (ts.map Th.wt).sum
def putAll (ts : List Th) : List UInt8 := ts.foldl (fun b x => x.put b) []
def badAll (ts : List Th) : Bool := ts.any Th.bad

theorem Th.put_len (x : Th) (h : x.Ok) (bs : List UInt8) : (x.put bs).length ≤ bs.length + x.wt := by
  have h9 := sevF_len 9 x.n.toNat
  have h9' := sevF_len 9 x.s.size
  have hs := strC_len x.s
  have hd := h.d
  unfold Th.put wrInt Th.wt sev
  split
  · split
    · omega
    · simp only [List.length_append]; omega
  · split
    · simp only [List.length_append]; omega
    · split
      · simp only [List.length_append]; omega
      · omega
theorem putAll_snoc (ts : List Th) (x : Th) : putAll (ts ++ [x]) = x.put (putAll ts) := by simp [putAll]
theorem badAll_snoc (ts : List Th) (x : Th) : badAll (ts ++ [x]) = (badAll ts || x.bad) := by simp [badAll]
theorem wts_snoc (ts : List Th) (x : Th) : wts (ts ++ [x]) = wts ts + x.wt := by simp [wts]
theorem wts_append (ts us : List Th) : wts (ts ++ us) = wts ts + wts us := by simp [wts]
theorem put_fold_len (ts : List Th) (h : ∀ x ∈ ts, x.Ok) : ∀ bs : List UInt8, (ts.foldl (fun b (x : Th) => x.put b) bs).length ≤ bs.length + wts ts := by
  induction ts with
  | nil => intro bs; simp [wts]
  | cons x ts ih =>
    intro bs
    have h1 := Th.put_len x (h x (by simp)) bs
    have h2 := ih (fun y hy => h y (by simp [hy])) (x.put bs)
    simp only [List.foldl_cons, wts, List.map_cons, List.sum_cons] at h2 ⊢
    omega
theorem putAll_len (ts : List Th) (h : ∀ x ∈ ts, x.Ok) : (putAll ts).length ≤ wts ts := by
  have := put_fold_len ts h []
  simpa [putAll] using this
theorem Th.cs_len (x : Th) (h : x.Ok) : x.cs.length = 35 := by simp [Th.cs, h.d]
theorem thC_len (ts : List Th) (h : ∀ x ∈ ts, x.Ok) : (thC ts).length = ts.length * 35 := by
  induction ts with
  | nil => rfl
  | cons x ts ih =>
    have := ih fun y hy => h y (by simp [hy])
    have h1 := x.cs_len (h x (by simp))
    simp only [thC, List.flatMap_cons, List.length_append, List.length_cons] at this ⊢
    omega
theorem thC_at (ts : List Th) (h : ∀ x ∈ ts, x.Ok) (j : Nat) (x : Th) (hj : ts[j]? = some x) : ((thC ts).drop (j * 35)).take 35 = x.cs := by
  induction ts generalizing j with
  | nil => simp at hj
  | cons y ts ih =>
    have h1 := y.cs_len (h y (by simp))
    have e : thC (y :: ts) = y.cs ++ thC ts := rfl
    cases j with
    | zero =>
      simp at hj; subst hj
      rw [e, Nat.zero_mul, List.drop_zero, List.take_left' h1]
    | succ j =>
      rw [e, List.drop_append, List.drop_eq_nil_of_le (by omega), List.nil_append, h1]
      rw [show (j + 1) * 35 - 35 = j * 35 by omega]
      exact ih (fun z hz => h z (by simp [hz])) j (by simpa using hj)
theorem rd_thing {w : World} {A : Option Addr} {ts : List Th} (h : Rd w A (thC ts)) (hts : ∀ x ∈ ts, x.Ok) (j : Nat) (x : Th) (hj : ts[j]? = some x) :
    ∃ b o, A = some ⟨b, o, none⟩ ∧ Rd w (some ⟨b, o + j * 35, none⟩) x.cs := by
  have h1 := thC_at ts hts j x hj
  have hx : (thC ts) ≠ [] := by
    intro e
    rw [e] at h1
    simp [Th.cs] at h1
  obtain ⟨b, o, rfl⟩ := h.open hx
  exact ⟨b, o, rfl, by rw [← h1]; exact (h.drop (j * 35)).take 35⟩

/-- What is told of things that were written at once. -/
def AllPost (W : World) (l : List SL) (ts : List Th) (e : Ending) (w' : World) : Prop :=
  if badAll ts then e = .returned (.tuple #[.slice none 0 0, .bool false]) ∧ Sat W w' l
  else ∃ A' c', e = .returned (.tuple #[.slice A' (putAll ts).length c', .bool true]) ∧ Sat W w' (row 5 zB (.slice A' (putAll ts).length c') (putAll ts).length ((putAll ts).map B) :: l)

end Go.Proofs.YtodbmeklbamcfaaGreat

/- The laws' own helpers over package word: one number's bytes, a wrong reading, awake. -/
namespace Go.Proofs.YtodbmeklbamcfaaGreat
open Go.RowKit Go.Rt

def noID : List UInt8 := List.replicate 32 0
set_option maxRecDepth 100000 in
theorem rFault_any {W w : World} {l : List SL} (p : Nat) (bs : List UInt8) (pl : Nat) (fe fa : Int) (H : Sat W w (rdr p bs pl fe fa :: l)) :
    Calls Tryz.prog 125 #[.pointer (some ⟨p, 0, none⟩)] w fun e w' => e = .returned (.agg #[.int .i64 fe, .int .i64 fa]) ∧ Sat W w' (rdr p bs pl fe fa :: l) := by
  obtain ⟨A, c, H1⟩ := rdr_open H
  have hlt := H1.lt
  have hc0 : w.cell? ⟨p, 0, none⟩ = some (.bool true) := H1.cell 0
  have hc2 : w.cell? ⟨p, 2, none⟩ = some (.int .i64 fe) := H1.cell 2
  have hc3 : w.cell? ⟨p, 3, none⟩ = some (.int .i64 fa) := H1.cell 3
  have k0 : ∀ o, (w.alloc o).cell? ⟨p, 0, none⟩ = some (.bool true) := fun o => by rw [World.cell?_alloc_lt _ _ _ hlt]; exact hc0
  go_enter Tryz.func125, Tryz.ntmps125
  go_wp2_with (go_at_call 158; refine (none_any _ _ true _ (k0 _)).mono ?_; rintro e w' ⟨rfl, rfl⟩)
  exact bodyPost_ret (v := .agg #[.int .i64 fe, .int .i64 fa]) (by simp [results, Tryz.results125, go_sem]) rfl ⟨rfl, H.alloc' _⟩

end Go.Proofs.YtodbmeklbamcfaaGreat

/- Package word's reader: Count, At, Left, End. -/
namespace Go.Proofs.YtodbmeklbamcfaaGreat
open Go.RowKit Go.Rt

set_option maxRecDepth 100000 in
theorem rCount1_any {W w : World} {l : List SL} (b1 b3 b4 : Nat) (p : Nat) (bs : List UInt8) (pl : Nat) (high : Int) (hp : pl ≤ bs.length) (hb : bs.length ≤ 1000000000)
    (H : Sat W w (rdr p bs pl 0 0 :: ([pt b4 #[.int .i64 0] 3, pt b3 #[.int .i64 high] 3, pt b1 #[.pointer (some ⟨p, 0, none⟩)] 106] ++ l))) :
    Calls Tryz.prog 168 #[.pointer (some ⟨b1, 0, none⟩), .pointer (some ⟨b3, 0, none⟩), .pointer (some ⟨b4, 0, none⟩)] w fun e w' =>
      match numAt bs pl 0 high 3 with
      | .ok n k => e = .returned (.tuple #[]) ∧ Sat W w' (rdr p bs (pl + k) 0 0 :: ([pt b4 #[.int .i64 n] 3, pt b3 #[.int .i64 high] 3, pt b1 #[.pointer (some ⟨p, 0, none⟩)] 106] ++ l))
      | .bad fe fa => e = .panicked (gone fe fa) ∧ ∃ pl', Sat W w' (rdr p bs pl' 0 0 :: ([pt b4 #[.int .i64 0] 3, pt b3 #[.int .i64 high] 3, pt b1 #[.pointer (some ⟨p, 0, none⟩)] 106] ++ l)) := by
  have h1 : w.cell? ⟨b1, 0, none⟩ = some (.pointer (some ⟨p, 0, none⟩)) := (H.pull 3).cell 0
  have h3 : w.cell? ⟨b3, 0, none⟩ = some (.int .i64 high) := (H.pull 2).cell 0
  have hn := number_any 0 high 3 hp hb H
  generalize numAt bs pl 0 high 3 = r at hn ⊢
  have HN := Lib.hid hn
  clear hn
  cases r with
  | bad fe fa =>
    go_enter Tryz.func168, Tryz.ntmps168
    go_wp2_with fail
    refine HN.out.mono ?_
    rintro e w1 ⟨rfl, h⟩
    exact ⟨rfl, rfl, h⟩
  | ok n k =>
    go_enter Tryz.func168, Tryz.ntmps168
    go_wp2_with fail
    refine HN.out.mono ?_
    rintro e w1 ⟨rfl, H1, hk⟩
    have h4 : w1.cell? ⟨b4, 0, none⟩ = some (.int .i64 0) := (H1.pull 1).cell 0
    have f4 := (H1.pull 1).frz 0
    go_wp2
    go_end0
    exact ⟨rfl, ((H1.swap).setCell 0 (.int .i64 n)).swap⟩

set_option maxRecDepth 100000 in
theorem rCount_any {W w : World} {l : List SL} (p : Nat) (bs : List UInt8) (pl : Nat) (fe fa : Int) (high : Int) (hp : pl ≤ bs.length) (hb : bs.length ≤ 1000000000) (hf : fe = 0 → fa = 0)
    (H : Sat W w (rdr p bs pl fe fa :: l)) :
    Calls Tryz.prog 124 #[.pointer (some ⟨p, 0, none⟩), .int .i64 high] w fun e w' =>
      e = .returned (.int .i64 (toldInt bs pl fe fa 0 high 3).n) ∧ Sat W w' (rdr p bs (toldInt bs pl fe fa 0 high 3).pl (toldInt bs pl fe fa 0 high 3).fe (toldInt bs pl fe fa 0 high 3).fa :: l) := by
  have hmf : ∀ (fn : Fn) (first cap : Array Value) (w : World), (Instr.makeFunc fn first cap).run Tryz.prog w = .ok (.func fn first cap) w := fun _ _ _ _ => rfl
  have H0 := (((H.alloc #[.pointer (some ⟨p, 0, none⟩)] 106).alloc #[.int .i64 high] 3).alloc #[.int .i64 0] 3)
  simp only [World.size_alloc] at H0
  obtain ⟨T, HT⟩ : ∃ T, Hid (toldInt bs pl fe fa 0 high 3 = T) := ⟨_, rfl⟩
  rw [HT.out]
  go_enter Tryz.func124, Tryz.ntmps124
  go_wp2_with fail
  generalize ((w.alloc _).alloc _).alloc _ = wo at *
  generalize w.heap.size + 1 + 1 = b4 at *
  generalize w.heap.size + 1 = b3 at *
  generalize w.heap.size = b1 at *
  have H1 : Sat W wo (rdr p bs pl fe fa :: ([pt b4 #[.int .i64 0] 3, pt b3 #[.int .i64 high] 3, pt b1 #[.pointer (some ⟨p, 0, none⟩)] 106] ++ l)) := H0.pull 3
  clear H0 hmf
  by_cases h0 : fe = 0
  · subst h0
    obtain rfl := hf rfl
    have hI := fun (L : List SL) (w1 : World) (h : Sat W w1 (rdr p bs pl 0 0 :: ([pt b4 #[.int .i64 0] 3, pt b3 #[.int .i64 high] 3, pt b1 #[.pointer (some ⟨p, 0, none⟩)] 106] ++ L))) => rCount1_any b1 b3 b4 p bs pl high hp hb h
    have ht : T = (match numAt bs pl 0 high 3 with | .ok n k => ⟨n, pl + k, 0, 0⟩ | .bad e a => ⟨0, pl, e, a⟩) := HT.out.symm
    clear HT hf
    generalize numAt bs pl 0 high 3 = r at hI ht
    have HI := Lib.hid hI
    clear hI
    cases r with
    | ok n k =>
      obtain rfl : T = ⟨n, pl + k, 0, 0⟩ := ht
      refine (try_fine p bs pl (pl + k) 168 _ _ _ HI.out (fun w1 => by simp [go_sem]) H1).mono ?_
      rintro e w2 ⟨rfl, H2⟩
      have hc : w2.cell? ⟨b4, 0, none⟩ = some (.int .i64 n) := (H2.pull 1).cell 0
      go_wp2
      go_ret
      exact ⟨rfl, H2.swap.tail.swap.tail.swap.tail⟩
    | bad er ea =>
      obtain rfl : T = ⟨0, pl, er, ea⟩ := ht
      refine (try_gone p bs pl er ea 168 _ _ _ HI.out (fun w1 => by simp [go_sem]) H1).mono ?_
      rintro e w2 ⟨rfl, H2⟩
      go_wp2
      go_ret
      exact ⟨rfl, H2.swap.tail.swap.tail.swap.tail⟩
  · obtain rfl : T = ⟨0, pl, fe, fa⟩ := by rw [← HT.out]; simp only [toldInt]; rw [if_neg h0]
    clear HT
    refine (try_stuck p bs pl fe fa _ h0 H1).mono ?_
    rintro e w2 ⟨rfl, H2⟩
    go_wp2
    go_ret
    exact ⟨rfl, H2.swap.tail.swap.tail.swap.tail⟩
set_option maxRecDepth 100000 in
theorem rLeft_any {W w : World} {l : List SL} (p : Nat) (bs : List UInt8) (pl : Nat) (fe fa : Int) (hp : pl ≤ bs.length) (hb : bs.length ≤ 1000000000) (H : Sat W w (rdr p bs pl fe fa :: l)) :
    Calls Tryz.prog 127 #[.pointer (some ⟨p, 0, none⟩)] w fun e w' => e = .returned (.int .i64 ((bs.length - pl : Nat) : Int)) ∧ Sat W w' (rdr p bs pl fe fa :: l) := by
  obtain ⟨A, c, H1⟩ := rdr_open H
  have hc0 : w.cell? ⟨p, 0, none⟩ = some (.bool true) := H1.cell 0
  have hc1 : w.cell? ⟨p, 1, none⟩ = some (.slice A bs.length c) := H1.cell 1
  have hc4 : w.cell? ⟨p, 4, none⟩ = some (.int .i64 pl) := H1.cell 4
  have hs1 : IntKind.i64.wrap ((bs.length : Int) - pl) = (bs.length : Int) - pl := IntWalk.i64_in _ (by omega)
  have hs2 : Hid ((bs.length : Int) - pl = ((bs.length - pl : Nat) : Int)) := by show _ = _; omega
  go_enter Tryz.func127, Tryz.ntmps127
  go_wp2_with (go_at_call 158; refine (none_any _ _ true _ hc0).mono ?_; rintro e w' ⟨rfl, rfl⟩)
  go_quiet (fail)
  go_wp2
  go_ret
  exact ⟨by rw [hs2.out]; rfl, H.drewN _⟩

/-- What a reader says at its end. -/
def endF (bs : List UInt8) (pl : Nat) (fe fa : Int) : Int × Int := if fe = 0 ∧ pl < bs.length then (4, (pl : Int)) else (fe, fa)
set_option maxRecDepth 100000 in
theorem rEnd_any {W w : World} {l : List SL} (p : Nat) (bs : List UInt8) (pl : Nat) (fe fa : Int) (hp : pl ≤ bs.length) (hb : bs.length ≤ 1000000000) (H : Sat W w (rdr p bs pl fe fa :: l)) :
    Calls Tryz.prog 91 #[.pointer (some ⟨p, 0, none⟩)] w fun e w' => e = .returned (.agg #[.int .i64 (endF bs pl fe fa).1, .int .i64 (endF bs pl fe fa).2]) ∧ Sat W w' (rdr p bs pl fe fa :: l) := by
  have H0 : Sat W (w.alloc (.cells #[.int .i64 0, .int .i64 0] 45)) (rdr p bs pl fe fa :: pt w.heap.size #[.int .i64 0, .int .i64 0] 45 :: l) := (H.alloc _ _).swap
  obtain ⟨r, hr⟩ : ∃ r, Hid (endF bs pl fe fa = r) := ⟨_, rfl⟩
  rw [hr.out]
  go_enter Tryz.func91, Tryz.ntmps91
  go_wp2_with fail
  refine (rFault_any p bs pl fe fa H0).mono ?_
  rintro e w1 ⟨rfl, H1⟩
  generalize w.heap.size = b at H1 ⊢
  have H2 : Sat W (w1.alloc (.cells #[.int .i64 fe, .int .i64 fa] 45)) (rdr p bs pl fe fa :: pt w1.heap.size #[.int .i64 fe, .int .i64 fa] 45 :: pt b #[.int .i64 0, .int .i64 0] 45 :: l) := (H1.alloc _ _).swap
  have c0 := (H2.pull 2).cell 0
  have c1 := (H2.pull 2).cell 1
  have f0 := (H2.pull 2).frz 0
  have f1 := (H2.pull 2).frz 1
  by_cases h0 : fe = 0
  · subst h0
    by_cases hpl : pl < bs.length
    · have hd : decide (((bs.length - pl : Nat) : Int) > 0) = true := by simp; omega
      have er : r = (4, (pl : Int)) := by rw [← hr.out, endF, if_pos ⟨rfl, hpl⟩]
      subst er
      go_wp2_with fail
      refine (rLeft_any p bs pl 0 fa hp hb H2).mono ?_
      rintro e w2 ⟨rfl, H3⟩
      clear c0 c1 f0 f1
      have H4 := H3.swap
      have c0 := (H3.pull 2).cell 0
      have c1 := (H3.pull 2).cell 1
      have f0 := (H3.pull 2).frz 0
      have f1 := (H3.pull 2).frz 1
      have d0 := H4.cell 0
      have d1 := H4.cell 1
      have g0 := H4.frz 0
      have g1 := H4.frz 1
      have hne : ¬ w1.heap.size = b := H3.tail.ne
      obtain ⟨A, c, H5⟩ := rdr_open H3
      have e4 : w2.cell? ⟨p, 4, none⟩ = some (.int .i64 pl) := H5.cell 4
      go_wp2_with fail
      have H6 := ((((H4.setCell 0 (.int .i64 4)).setCell 1 (.int .i64 pl)).pull 2).setCell 0 (.int .i64 4)).setCell 1 (.int .i64 pl)
      generalize (((w2.setCell _ _).setCell _ _).setCell _ _).setCell _ _ = wF at H6 ⊢
      have k0 : wF.cell? ⟨b, 0, none⟩ = some (.int .i64 4) := H6.cell 0
      have k1 : wF.cell? ⟨b, 1, none⟩ = some (.int .i64 pl) := H6.cell 1
      exact bodyPost_ret (v := .agg #[.int .i64 4, .int .i64 pl]) (by simp [results, Tryz.results91, go_sem, k0, k1]) rfl ⟨rfl, H6.tail.tail⟩
    · have hd : decide (((bs.length - pl : Nat) : Int) > 0) = false := by simp; omega
      have er : r = (0, fa) := by rw [← hr.out, endF, if_neg (fun h => hpl h.2)]
      subst er
      go_wp2_with fail
      refine (rLeft_any p bs pl 0 fa hp hb H2).mono ?_
      rintro e w2 ⟨rfl, H3⟩
      clear c0 c1 f0 f1
      have c0 := (H3.pull 2).cell 0
      have c1 := (H3.pull 2).cell 1
      have f0 := (H3.pull 2).frz 0
      have f1 := (H3.pull 2).frz 1
      have d0 := H3.swap.cell 0
      have d1 := H3.swap.cell 1
      go_wp2_with fail
      have H6 := ((H3.pull 2).setCell 0 (.int .i64 0)).setCell 1 (.int .i64 fa)
      generalize (w2.setCell _ _).setCell _ _ = wF at H6 ⊢
      have k0 : wF.cell? ⟨b, 0, none⟩ = some (.int .i64 0) := H6.cell 0
      have k1 : wF.cell? ⟨b, 1, none⟩ = some (.int .i64 fa) := H6.cell 1
      exact bodyPost_ret (v := .agg #[.int .i64 0, .int .i64 fa]) (by simp [results, Tryz.results91, go_sem, k0, k1]) rfl ⟨rfl, H6.tail.swap.tail⟩
  · have hd : decide (fe = 0) = false := by simpa using h0
    have er : r = (fe, fa) := by rw [← hr.out, endF, if_neg (fun h => h0 h.1)]
    subst er
    have H6 := ((H1.swap.setCell 0 (.int .i64 fe)).setCell 1 (.int .i64 fa)).alloc' (.cells #[.int .i64 fe, .int .i64 fa] 45)
    have hbl : b < w1.heap.size := H1.swap.lt
    have i0 : w1.cell? ⟨b, 0, none⟩ = some (.int .i64 0) := H1.swap.cell 0
    have i1 : w1.cell? ⟨b, 1, none⟩ = some (.int .i64 0) := H1.swap.cell 1
    have j0 := H1.swap.frz 0
    have j1 := H1.swap.frz 1
    clear c0 c1 f0 f1
    go_wp2_with fail
    generalize ((w1.setCell _ _).setCell _ _).alloc _ = wF at H6 ⊢
    have k0 : wF.cell? ⟨b, 0, none⟩ = some (.int .i64 fe) := H6.cell 0
    have k1 : wF.cell? ⟨b, 1, none⟩ = some (.int .i64 fa) := H6.cell 1
    exact bodyPost_ret (v := .agg #[.int .i64 fe, .int .i64 fa]) (by simp [results, Tryz.results91, go_sem, k0, k1]) rfl ⟨rfl, H6.tail⟩
end Go.Proofs.YtodbmeklbamcfaaGreat

/- Package word's reader: Text. -/
namespace Go.Proofs.YtodbmeklbamcfaaGreat
open Go.RowKit Go.Rt

/-- What a text asked for comes to: its bytes and how many bytes are passed, or a fault. -/
inductive Txt where
  | ok (s : List UInt8) (k : Nat)
  | bad (e a : Int)
def txtAt (bs : List UInt8) (pl : Nat) (most : Int) : Txt :=
  match numAt bs pl 0 most 3 with
  | .ok n k => if n ≤ bs.length - (pl + k) then .ok ((bs.drop (pl + k)).take n) (k + n) else .bad 4 bs.length
  | .bad e a => .bad e a

set_option maxRecDepth 100000 in
set_option maxHeartbeats 1600000 in
theorem rText1_any {W w : World} {l : List SL} (b1 b3 b4 : Nat) (p : Nat) (bs : List UInt8) (pl : Nat) (high : Int) (hp : pl ≤ bs.length) (hb : bs.length ≤ 1000000000)
    (H : Sat W w (rdr p bs pl 0 0 :: ([pt b4 #[.string ⟨#[]⟩] 9, pt b3 #[.int .i64 high] 3, pt b1 #[.pointer (some ⟨p, 0, none⟩)] 106] ++ l))) :
    Calls Tryz.prog 169 #[.pointer (some ⟨b1, 0, none⟩), .pointer (some ⟨b3, 0, none⟩), .pointer (some ⟨b4, 0, none⟩)] w fun e w' =>
      match txtAt bs pl high with
      | .ok s k => e = .returned (.tuple #[]) ∧ Sat W w' (rdr p bs (pl + k) 0 0 :: ([pt b4 #[.string ⟨s.toArray⟩] 9, pt b3 #[.int .i64 high] 3, pt b1 #[.pointer (some ⟨p, 0, none⟩)] 106] ++ l)) ∧ pl + k ≤ bs.length
      | .bad fe fa => e = .panicked (gone fe fa) ∧ ∃ pl', Sat W w' (rdr p bs pl' 0 0 :: ([pt b4 #[.string ⟨#[]⟩] 9, pt b3 #[.int .i64 high] 3, pt b1 #[.pointer (some ⟨p, 0, none⟩)] 106] ++ l)) := by
  have h1 : w.cell? ⟨b1, 0, none⟩ = some (.pointer (some ⟨p, 0, none⟩)) := (H.pull 3).cell 0
  have h3 : w.cell? ⟨b3, 0, none⟩ = some (.int .i64 high) := (H.pull 2).cell 0
  have hn := number_any 0 high 3 hp hb H.drew
  unfold txtAt
  generalize numAt bs pl 0 high 3 = r at hn ⊢
  have HN := Lib.hid hn
  clear hn
  cases r with
  | bad fe fa =>
    dsimp only
    clear H
    go_enter Tryz.func169, Tryz.ntmps169
    refine wp_region_held_drew (S := fun w => w.cell? ⟨b1, 0, none⟩ = some (.pointer (some ⟨p, 0, none⟩)) ∧ w.cell? ⟨b3, 0, none⟩ = some (.int .i64 high)) (by kernel_rfl) ⟨h1, h3⟩ (fun hS => ?_)
    refine wpAnyH_take (i := 0) (v := ?_) rfl (by kernel_rfl) (by kernel_rfl) (by kernel_rfl) (fun _ _ _ h => h) (Or.inl ⟨by rfl, ?_⟩) hS ?_
    rotate_left
    · intro w hw
      obtain ⟨g1, g3⟩ := hw
      go_simp
      try with_reducible rfl
    simp only [Act.put, List.getElem_toArray, List.getElem_cons_zero, List.setIfInBounds_toArray, List.set_cons_zero, List.set_cons_succ]
    refine wpAnyH_take (i := 1) (v := ?_) rfl (by kernel_rfl) (by kernel_rfl) (by kernel_rfl) (fun _ _ _ h => h) (Or.inl ⟨by rfl, ?_⟩) hS ?_
    rotate_left
    · intro w hw
      obtain ⟨g1, g3⟩ := hw
      go_simp
      try with_reducible rfl
    simp only [Act.put, List.getElem_toArray, List.getElem_cons_zero, List.getElem_cons_succ, List.setIfInBounds_toArray, List.set_cons_zero, List.set_cons_succ]
    refine wpAnyH_take (i := 2) (v := ?_) rfl (by kernel_rfl) (by kernel_rfl) (by kernel_rfl) (fun _ _ _ h => h) (Or.inl ⟨by rfl, ?_⟩) hS ?_
    rotate_left
    · intro w hw
      obtain ⟨g1, g3⟩ := hw
      go_simp
      try with_reducible rfl
    simp only [Act.put, List.getElem_toArray, List.getElem_cons_zero, List.getElem_cons_succ, List.setIfInBounds_toArray, List.set_cons_zero, List.set_cons_succ]
    refine wpAnyH_ready (rs := [3]) (by kernel_rfl) (by simp) ?_
    refine AllReadyH.cons rfl (fun K hK => ?_) AllReadyH.nil
    go_simp
    refine HN.out.mono ?_
    rintro e w1 ⟨rfl, h⟩
    exact ⟨rfl, rfl, h⟩
  | ok n k =>
    dsimp only
    by_cases hfit : n ≤ bs.length - (pl + k)
    · rw [if_pos hfit]
      go_enter Tryz.func169, Tryz.ntmps169
      go_region_law (first
        | (go_simp; go_at_call 123; refine HN.out.mono ?_
           rintro e w1 ⟨rfl, H1, hk⟩
           have h1' : w1.cell? ⟨b1, 0, none⟩ = some (.pointer (some ⟨p, 0, none⟩)) := (H1.pull 3).cell 0)
        | (go_simp; go_at_call 167; refine (some_fits n hk hb hfit H1).mono ?_
           rintro e w2 ⟨A, c, rfl, H2, hr⟩
           have hl : ((bs.drop (pl + k)).take n).length = n := by rw [List.length_take, List.length_drop]; omega
           have hcv := run_str (P := Tryz.prog) (w := w2) 30 9 5 Tryz.underlying30 Tryz.underlying5 Tryz.underlying9 A n c ((bs.drop (pl + k)).take n) hl hr
           have h4 : w2.cell? ⟨b4, 0, none⟩ = some (.string ⟨#[]⟩) := (H2.pull 1).cell 0
           have f4 := (H2.pull 1).frz 0))
      all_goals
        go_end0
        refine ⟨rfl, ?_, by omega⟩
        rw [← Nat.add_assoc]
        exact ((H2.swap).setCell 0 (.string ⟨((bs.drop (pl + k)).take n).toArray⟩)).swap
    · rw [if_neg hfit]
      go_enter Tryz.func169, Tryz.ntmps169
      refine wp_region_held_drew (S := fun w => w.cell? ⟨b1, 0, none⟩ = some (.pointer (some ⟨p, 0, none⟩)) ∧ w.cell? ⟨b3, 0, none⟩ = some (.int .i64 high)) (by kernel_rfl) ⟨h1, h3⟩ (fun hS => ?_)
      refine wpAnyH_take (i := 0) (v := ?_) rfl (by kernel_rfl) (by kernel_rfl) (by kernel_rfl) (fun _ _ _ h => h) (Or.inl ⟨by rfl, ?_⟩) hS ?_
      rotate_left
      · intro w hw
        obtain ⟨g1, g3⟩ := hw
        go_simp
        try with_reducible rfl
      simp only [Act.put, List.getElem_toArray, List.getElem_cons_zero, List.setIfInBounds_toArray, List.set_cons_zero, List.set_cons_succ]
      refine wpAnyH_take (i := 1) (v := ?_) rfl (by kernel_rfl) (by kernel_rfl) (by kernel_rfl) (fun _ _ _ h => h) (Or.inl ⟨by rfl, ?_⟩) hS ?_
      rotate_left
      · intro w hw
        obtain ⟨g1, g3⟩ := hw
        go_simp
        try with_reducible rfl
      simp only [Act.put, List.getElem_toArray, List.getElem_cons_zero, List.getElem_cons_succ, List.setIfInBounds_toArray, List.set_cons_zero, List.set_cons_succ]
      refine wpAnyH_take (i := 2) (v := ?_) rfl (by kernel_rfl) (by kernel_rfl) (by kernel_rfl) (fun _ _ _ h => h) (Or.inl ⟨by rfl, ?_⟩) hS ?_
      rotate_left
      · intro w hw
        obtain ⟨g1, g3⟩ := hw
        go_simp
        try with_reducible rfl
      simp only [Act.put, List.getElem_toArray, List.getElem_cons_zero, List.getElem_cons_succ, List.setIfInBounds_toArray, List.set_cons_zero, List.set_cons_succ]
      refine wpAnyH_ready (rs := [3]) (by kernel_rfl) (by simp) ?_
      refine AllReadyH.cons rfl (fun K hK => ?_) AllReadyH.nil
      go_simp
      refine HN.out.mono ?_
      rintro e w1 ⟨rfl, H1, hk⟩
      refine hK.out _ _ ⟨(H1.pull 3).cell 0, (H1.pull 2).cell 0⟩ (fun hS1 => ?_)
      clear hK K
      refine wpAnyH_ready (rs := [4]) (by kernel_rfl) (by simp) ?_
      refine AllReadyH.cons rfl (fun K hK => ?_) AllReadyH.nil
      go_simp
      refine (some_short n hk hb (by omega) H1).mono ?_
      rintro e w2 ⟨rfl, H2⟩
      exact ⟨rfl, rfl, _, H2⟩
end Go.Proofs.YtodbmeklbamcfaaGreat

/- Package word's reader: Text, whole. -/
namespace Go.Proofs.YtodbmeklbamcfaaGreat
open Go.RowKit Go.Rt

/-- What a reader tells of a text and becomes. -/
structure ToldT where
  s : List UInt8
  pl : Nat
  fe : Int
  fa : Int
def toldTxt (bs : List UInt8) (pl : Nat) (fe fa : Int) (high : Int) : ToldT :=
  if fe = 0 then (match txtAt bs pl high with
    | .ok s k => ⟨s, pl + k, 0, 0⟩
    | .bad e a => ⟨[], pl, e, a⟩) else ⟨[], pl, fe, fa⟩

set_option maxRecDepth 100000 in
theorem rText_any {W w : World} {l : List SL} (p : Nat) (bs : List UInt8) (pl : Nat) (fe fa : Int) (high : Int) (hp : pl ≤ bs.length) (hb : bs.length ≤ 1000000000) (hf : fe = 0 → fa = 0)
    (H : Sat W w (rdr p bs pl fe fa :: l)) :
    Calls Tryz.prog 126 #[.pointer (some ⟨p, 0, none⟩), .int .i64 high] w fun e w' =>
      e = .returned (.string ⟨(toldTxt bs pl fe fa high).s.toArray⟩) ∧ Sat W w' (rdr p bs (toldTxt bs pl fe fa high).pl (toldTxt bs pl fe fa high).fe (toldTxt bs pl fe fa high).fa :: l) := by
  have hmf : ∀ (fn : Fn) (first cap : Array Value) (w : World), (Instr.makeFunc fn first cap).run Tryz.prog w = .ok (.func fn first cap) w := fun _ _ _ _ => rfl
  have H0 := (((H.alloc #[.pointer (some ⟨p, 0, none⟩)] 106).alloc #[.int .i64 high] 3).alloc #[.string ⟨#[]⟩] 9)
  simp only [World.size_alloc] at H0
  obtain ⟨T, HT⟩ : ∃ T, Hid (toldTxt bs pl fe fa high = T) := ⟨_, rfl⟩
  rw [HT.out]
  go_enter Tryz.func126, Tryz.ntmps126
  go_wp2_with fail
  generalize ((w.alloc _).alloc _).alloc _ = wo at *
  generalize w.heap.size + 1 + 1 = b4 at *
  generalize w.heap.size + 1 = b3 at *
  generalize w.heap.size = b1 at *
  have H1 : Sat W wo (rdr p bs pl fe fa :: ([pt b4 #[.string ⟨#[]⟩] 9, pt b3 #[.int .i64 high] 3, pt b1 #[.pointer (some ⟨p, 0, none⟩)] 106] ++ l)) := H0.pull 3
  clear H0 hmf
  by_cases h0 : fe = 0
  · subst h0
    obtain rfl := hf rfl
    have hI := fun (L : List SL) (w1 : World) (h : Sat W w1 (rdr p bs pl 0 0 :: ([pt b4 #[.string ⟨#[]⟩] 9, pt b3 #[.int .i64 high] 3, pt b1 #[.pointer (some ⟨p, 0, none⟩)] 106] ++ L))) => rText1_any b1 b3 b4 p bs pl high hp hb h
    have ht : T = (match txtAt bs pl high with | .ok s k => ⟨s, pl + k, 0, 0⟩ | .bad e a => ⟨[], pl, e, a⟩) := HT.out.symm
    clear HT hf
    generalize txtAt bs pl high = r at hI ht
    have HI := Lib.hid hI
    clear hI
    cases r with
    | ok s k =>
      obtain rfl : T = ⟨s, pl + k, 0, 0⟩ := ht
      refine (try_fine p bs pl (pl + k) 169 _ _ _ (fun L w1 h => (HI.out L w1 h).mono fun e w' h' => ⟨h'.1, h'.2.1⟩) (fun w1 => by simp [go_sem]) H1).mono ?_
      rintro e w2 ⟨rfl, H2⟩
      have hc : w2.cell? ⟨b4, 0, none⟩ = some (.string ⟨s.toArray⟩) := (H2.pull 1).cell 0
      go_wp2
      go_ret
      exact ⟨rfl, H2.swap.tail.swap.tail.swap.tail⟩
    | bad er ea =>
      obtain rfl : T = ⟨[], pl, er, ea⟩ := ht
      refine (try_gone p bs pl er ea 169 _ _ _ HI.out (fun w1 => by simp [go_sem]) H1).mono ?_
      rintro e w2 ⟨rfl, H2⟩
      go_wp2
      go_ret
      exact ⟨rfl, H2.swap.tail.swap.tail.swap.tail⟩
  · obtain rfl : T = ⟨[], pl, fe, fa⟩ := by rw [← HT.out]; simp only [toldTxt]; rw [if_neg h0]
    clear HT
    refine (try_stuck p bs pl fe fa _ h0 H1).mono ?_
    rintro e w2 ⟨rfl, H2⟩
    go_wp2
    go_ret
    exact ⟨rfl, H2.swap.tail.swap.tail.swap.tail⟩
end Go.Proofs.YtodbmeklbamcfaaGreat

/- The laws' own helpers over package word: bulky; the sizes of any number. -/
namespace Go.Proofs.YtodbmeklbamcfaaGreat
open Go.RowKit Go.Rt

def bulk31 (ts : List Th) (j : Nat) : Nat := ((ts.take j).map (·.s.size)).sum
def bulkyB (ts : List Th) : Bool := decide (30 < ts.length) || decide (2000 < bulk31 ts 31)
theorem bulk31_step (ts : List Th) (j : Nat) (x : Th) (h : ts[j]? = some x) : bulk31 ts (j + 1) = bulk31 ts j + x.s.size := by
  unfold bulk31
  rw [List.take_add_one, h]
  simp
theorem bulk31_le (ts : List Th) (j : Nat) : bulk31 ts j ≤ (ts.map (·.s.size)).sum := by
  unfold bulk31
  have h : (ts.map (·.s.size)).sum = ((ts.take j).map (·.s.size)).sum + ((ts.drop j).map (·.s.size)).sum := by
    rw [← List.sum_append, ← List.map_append, List.take_append_drop]
  omega
theorem bulk31_reach (ts : List Th) (h : ∀ x ∈ ts, x.s.size ≤ 140737488355328) (j : Nat) : bulk31 ts j ≤ j * 140737488355328 := by
  induction j with
  | zero => simp [bulk31]
  | succ j ih =>
    cases hx : ts[j]? with
    | none =>
      have : bulk31 ts (j + 1) = bulk31 ts j := by unfold bulk31; rw [List.take_add_one, hx]; simp
      omega
    | some x =>
      rw [bulk31_step ts j x hx]
      have := h x (List.mem_of_getElem? hx)
      omega
theorem bulk31_all (ts : List Th) (j : Nat) (h : ts.length ≤ j) : bulk31 ts j = (ts.map (·.s.size)).sum := by unfold bulk31; rw [List.take_of_length_le h]
theorem wts_eq (ts : List Th) : wts ts = (ts.map (·.s.size)).sum + 41 * ts.length := by
  induction ts with
  | nil => rfl
  | cons x ts ih => simp only [wts, Th.wt, List.map_cons, List.sum_cons, List.length_cons] at ih ⊢; omega

/-- A thing's cells in a world in which they are read. -/
theorem th_at {w : World} {b o : Nat} {ts : List Th} (h : Rd w (some ⟨b, o, none⟩) (thC ts)) (hd : ∀ x ∈ ts, x.d.length = 32) (j : Nat) (x : Th) (hj : ts[j]? = some x) : Rd w (some ⟨b, o + j * 35, none⟩) x.cs := by
  have key : ((thC ts).drop (j * 35)).take 35 = x.cs := by
    clear h
    induction ts generalizing j with
    | nil => simp at hj
    | cons y ts ih =>
      have h1 : y.cs.length = 35 := by simp [Th.cs, hd y (by simp)]
      have e : thC (y :: ts) = y.cs ++ thC ts := rfl
      cases j with
      | zero =>
        simp at hj; subst hj
        rw [e, Nat.zero_mul, List.drop_zero, List.take_left' h1]
      | succ j =>
        rw [e, List.drop_append, List.drop_eq_nil_of_le (by omega), List.nil_append, h1]
        rw [show (j + 1) * 35 - 35 = j * 35 by omega]
        exact ih (fun z hz => hd z (by simp [hz])) j (by simpa using hj)
  rw [← key]; exact (h.drop (j * 35)).take 35
theorem th_open {w : World} {A : Option Addr} {ts : List Th} (h : Rd w A (thC ts)) (j : Nat) (x : Th) (hj : ts[j]? = some x) : ∃ b o, A = some ⟨b, o, none⟩ := by
  refine h.open fun e => ?_
  have h1 : x.cs = [] := by
    have := List.mem_of_getElem? hj
    simp only [thC, List.flatMap_eq_nil_iff] at e
    exact e x this
  simp [Th.cs] at h1

/-- A number's size, any number's. -/
def szN (n : Int) : Nat := if n < 0 then 0 else (sev n.toNat).length
theorem size_all (n : Int) (hn : n ≤ 9223372036854775807) (w : World) : Calls Tryz.prog 132 #[.int .i64 n] w fun e w' => e = .returned (.int .i64 (szN n)) ∧ w = w' := by
  unfold szN
  by_cases h : n < 0
  · rw [if_pos h]; exact size_neg n h w
  · rw [if_neg h]
    obtain ⟨m, rfl⟩ : ∃ m : Nat, n = m := ⟨n.toNat, by omega⟩
    exact size_any m (by omega) w
theorem xsize_all (n : Int) (hn : n ≤ 9223372036854775807) (w : World) : Calls Tryz.prog 141 #[.int .i64 n] w fun e w' => e = .returned (.int .i64 (szN n)) ∧ Below w.heap.size w w' := by
  unfold szN
  by_cases h : n < 0
  · rw [if_pos h]
    refine (xsize_neg n h w).mono ?_
    rintro e w' ⟨rfl, rfl⟩
    exact ⟨rfl, Below.refl _ _⟩
  · rw [if_neg h]
    obtain ⟨m, rfl⟩ : ∃ m : Nat, n = m := ⟨n.toNat, by omega⟩
    exact xsize_any m (by omega) w
end Go.Proofs.YtodbmeklbamcfaaGreat
