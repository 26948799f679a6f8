/- A pack of texts: KoZ -/
import Derived.Test.YtodbmeklbamcfaaGreatRows
import Derived.Test.YtodbmeklbamcfaaGreatPkBackG
import Derived.ProofKit
import Derived.SizedLaws
import Derived.Deep.Slices
import Derived.OpenShut
import Derived.Test.YtodbmeklbamcfaaGreatPkBackJ
import Derived.Test.YtodbmeklbamcfaaGreatPkBackX
import Derived.Test.YtodbmeklbamcfaaGreatPkBackO
/- KoZ, in one text: OpM, KoA, OpN, KoB, KoC. -/
namespace Go.Proofs.YtodbmeklbamcfaaGreat
open Go.ChangeShapes Go.WideShapes Go.RowKit Go.Rt Go.Deep

theorem rd_of_cells2 {w : World} (a : Addr) (xs : List Value) (h : ∀ j u, xs[j]? = some u → w.cell? (a.add j) = some u) : Rd w (some a) xs := by
  intro j u hu
  have h0 : ∃ u0, xs[0]? = some u0 := by
    cases xs with
    | nil => simp at hu
    | cons x xs => exact ⟨x, rfl⟩
  obtain ⟨u0, h0⟩ := h0
  have h1 := h 0 u0 h0
  have hs : a.spot = none := by
    have e : a.add 0 = a := by simp [Addr.add]
    rw [e] at h1
    cases hsp : a.spot with
    | none => rfl
    | some k =>
      exfalso
      unfold World.cell? at h1
      split at h1
      · simp [hsp] at h1
      · cases h1
  obtain ⟨b, o, s⟩ := a
  dsimp only at hs
  subst hs
  refine ⟨b, o, rfl, ?_⟩
  have := h j u hu
  rwa [Addr.add_lit] at this
section
variable {H : Type} {enc : TypeId × Value → H} {w : World} {base : Nat} {spare : Nat → Bool} {held : Bool}
theorem wf_i64' {m : Int} (h : (Lit.int .i64 m).wf = true) : -9223372036854775808 ≤ m ∧ m ≤ 9223372036854775807 := by
  have e1 : IntKind.i64.min = -9223372036854775808 := rfl
  have e2 : IntKind.i64.max = 9223372036854775807 := rfl
  simp only [Lit.wf, Bool.and_eq_true, decide_eq_true_eq] at h
  omega
theorem mem_weightsAll2 {P : Program} {e : TypeId} {n : Nat} {d : DataW H} : ∀ {l : List (DataW H)}, d ∈ l → n ∈ d.weights P e → n ∈ DataW.weightsAll P e l
  | [], h, _ => by cases h
  | x :: l, h, hn => by
    simp only [DataW.weightsAll, List.mem_append]
    rcases List.mem_cons.1 h with rfl | h
    · exact .inl hn
    · exact .inr (mem_weightsAll2 h hn)
/-- Each element opened, so is the slice: what its cells are. -/
theorem open_list2 {α : Type} {tS tE : TypeId} (cs : α → List Value) (sz : Nat) (ok : α → Prop) (x0 : α) (wt : α → Nat) (ht : Tryz.prog.underlying tS = some (.slice tE)) (hc : Tryz.prog.cellsOf tE = sz) (hlen : ∀ x, ok x → (cs x).length = sz)
    (hel : ∀ {n : Nat} {c : List Value} {y : DataW H × List MemPlace}, DataW.trod enc Tryz.prog w base spare held n tE c = some y → ∃ x, ok x ∧ c = cs x ∧ wt x ∈ y.1.weights Tryz.prog tE)
    {fuel : Nat} {v : Value} {y : DataW H × List MemPlace} (h : DataW.trod enc Tryz.prog w base spare held fuel tS [v] = some y) :
    ∃ (A : Option Addr) (c : Nat) (ts : List α), v = .slice A ts.length c ∧ Bsl A ts.length c ∧ (∀ x ∈ ts, ok x) ∧ Rd w A (ts.flatMap cs) ∧ ∀ x ∈ ts, wt x ∈ y.1.weights Tryz.prog tS := by
  rcases open_slice ht h with ⟨h1, _⟩ | ⟨a, len, cap, m, n, D, Pl, h1, _, hl, hcap, hm, hy, hi⟩
  · exact ⟨none, 0, [], by simpa using h1, ⟨Nat.le_refl _, fun _ => rfl, by unfold maxLen; omega⟩, by simp, Rd.nil _ _, by simp⟩
  · have hlm : len ≤ m := by rw [hm]; split <;> omega
    have hx : ∀ i, ∃ x : α, i < len → ok x ∧ w.cells? base (a.add (i * sz)) sz = some (cs x) ∧ wt x ∈ (D i).weights Tryz.prog tE := fun i => by
      by_cases hil : i < len
      · obtain ⟨cs', hc', ht'⟩ := hi i (by omega)
        rw [hc] at hc'
        obtain ⟨x, h2, rfl, h4⟩ := hel ht'
        exact ⟨x, fun _ => ⟨h2, hc', h4⟩⟩
      · exact ⟨x0, fun h => absurd h hil⟩
    obtain ⟨f, hf⟩ := Classical.axiomOfChoice hx
    have hC : ∀ x ∈ (List.range len).map f, ok x := fun x hx => by
      simp only [List.mem_map, List.mem_range] at hx
      obtain ⟨i, hil, rfl⟩ := hx
      exact (hf i hil).1
    have hL : ((List.range len).map f).length = len := by simp
    refine ⟨some a, cap, (List.range len).map f, by rw [hL]; simpa using h1, ⟨by rw [hL]; exact hl, nofun, hcap⟩, hC, rd_of_cells2 a _ fun j u hu => ?_, fun x hx => ?_⟩
    rotate_left
    · simp only [List.mem_map, List.mem_range] at hx
      obtain ⟨i, hil, rfl⟩ := hx
      rw [hy]
      simp only [DataW.weights, ht]
      exact List.mem_cons_of_mem _ (List.mem_append_left _ (mem_weightsAll2 (List.mem_map.2 ⟨i, List.mem_range.2 hil, rfl⟩) (hf i hil).2.2))
    have hflen := flat_len cs sz ((List.range len).map f) fun x hx => hlen x (hC x hx)
    rw [hL] at hflen
    have hj : j < len * sz := by have := (List.getElem?_eq_some_iff.1 hu).1; omega
    have hsz : 0 < sz := by
      rcases Nat.eq_zero_or_pos sz with h | h
      · rw [h] at hj; omega
      · exact h
    have hq : j / sz < len := Nat.div_lt_of_lt_mul (by rw [Nat.mul_comm]; exact hj)
    have hr : j % sz < sz := Nat.mod_lt _ hsz
    have hd : j / sz * sz + j % sz = j := by rw [Nat.mul_comm]; exact Nat.div_add_mod j sz
    have hat := flat_at cs sz ((List.range len).map f) (fun x hx => hlen x (hC x hx)) (j / sz) (f (j / sz)) (by simp [hq])
    obtain ⟨_, _, hce⟩ := World.cells?_some (hf (j / sz) hq).2.1
    have h5 := hce (j % sz) hr
    have h6 : (cs (f (j / sz)))[j % sz]? = some u := by
      rw [← hat, List.getElem?_take, if_pos hr, List.getElem?_drop, hd, hu]
    rw [h6, add_add, hd] at h5
    exact h5
end
end Go.Proofs.YtodbmeklbamcfaaGreat

/- A list of texts that came in, opened. -/
namespace Go.Proofs.YtodbmeklbamcfaaGreat
open Go.ChangeShapes Go.WideShapes Go.RowKit Go.Rt Go.Deep

section
variable {H : Type} {enc : TypeId × Value → H} {w : World} {base : Nat} {spare : Nat → Bool} {held : Bool}
theorem str_of_trod {fuel : Nat} {cs : List Value} {y : DataW H × List MemPlace} (h : DataW.trod enc Tryz.prog w base spare held fuel 9 cs = some y) : ∃ x : Str, x.length ≤ maxLen ∧ cs = [encStr x] ∧ x.length ∈ y.1.weights Tryz.prog 9 := by
  obtain ⟨s, e, z, hw⟩ := DataW.trod_string Tryz.underlying9 h
  refine ⟨s.data.toList, by rw [Array.length_toList]; exact hw, e, ?_⟩
  rw [z]
  simp [DataW.weights]
theorem flat_encStr (l : List Str) : l.flatMap (fun x => [encStr x]) = tsC l := by
  induction l with
  | nil => rfl
  | cons x l ih => rw [List.flatMap_cons, ih]; rfl
theorem open_texts {fuel : Nat} {v : Value} {y : DataW H × List MemPlace} (h : DataW.trod enc Tryz.prog w base spare held fuel 22 [v] = some y) :
    ∃ (A : Option Addr) (c : Nat) (ts : List Str), v = .slice A ts.length c ∧ Bsl A ts.length c ∧ (∀ x ∈ ts, x.length ≤ maxLen) ∧ Rd w A (tsC ts) := by
  obtain ⟨A, c, ts, hv, hb, hx, hr, _⟩ := open_list2 (fun x => [encStr x]) 1 (fun x : Str => x.length ≤ maxLen) [] (fun x => x.length) Tryz.underlying22 (by kernel_rfl) (fun _ _ => rfl) str_of_trod h
  rw [flat_encStr] at hr
  exact ⟨A, c, ts, hv, hb, hx, hr⟩
end
end Go.Proofs.YtodbmeklbamcfaaGreat

/- A slice that came in, opened element by element, no weights told (no package's own types in sight). -/
namespace Go.Proofs.YtodbmeklbamcfaaGreat
open Go.ChangeShapes Go.WideShapes Go.RowKit Go.Rt Go.Deep
section
variable {H : Type} {enc : TypeId × Value → H} {w : World} {base : Nat} {spare : Nat → Bool} {held : Bool}
/-- Each element opened, so is the slice: what its cells are. -/
theorem open_list3 {α : Type} {tS tE : TypeId} (cs : α → List Value) (sz : Nat) (ok : α → Prop) (x0 : α) (ht : Tryz.prog.underlying tS = some (.slice tE)) (hc : Tryz.prog.cellsOf tE = sz) (hlen : ∀ x, ok x → (cs x).length = sz)
    (hel : ∀ {n : Nat} {c : List Value} {y : DataW H × List MemPlace}, DataW.trod enc Tryz.prog w base spare held n tE c = some y → ∃ x, ok x ∧ c = cs x)
    {fuel : Nat} {v : Value} {y : DataW H × List MemPlace} (h : DataW.trod enc Tryz.prog w base spare held fuel tS [v] = some y) :
    ∃ (A : Option Addr) (c : Nat) (ts : List α), v = .slice A ts.length c ∧ Bsl A ts.length c ∧ (∀ x ∈ ts, ok x) ∧ Rd w A (ts.flatMap cs) := by
  rcases open_slice ht h with ⟨h1, _⟩ | ⟨a, len, cap, m, n, D, Pl, h1, _, hl, hcap, hm, hy, hi⟩
  · exact ⟨none, 0, [], by simpa using h1, ⟨Nat.le_refl _, fun _ => rfl, by unfold maxLen; omega⟩, by simp, Rd.nil _ _⟩
  · have hlm : len ≤ m := by rw [hm]; split <;> omega
    have hx : ∀ i, ∃ x : α, i < len → ok x ∧ w.cells? base (a.add (i * sz)) sz = some (cs x) := fun i => by
      by_cases hil : i < len
      · obtain ⟨cs', hc', ht'⟩ := hi i (by omega)
        rw [hc] at hc'
        obtain ⟨x, h2, rfl⟩ := hel ht'
        exact ⟨x, fun _ => ⟨h2, hc'⟩⟩
      · exact ⟨x0, fun h => absurd h hil⟩
    obtain ⟨f, hf⟩ := Classical.axiomOfChoice hx
    have hC : ∀ x ∈ (List.range len).map f, ok x := fun x hx => by
      simp only [List.mem_map, List.mem_range] at hx
      obtain ⟨i, hil, rfl⟩ := hx
      exact (hf i hil).1
    have hL : ((List.range len).map f).length = len := by simp
    refine ⟨some a, cap, (List.range len).map f, by rw [hL]; simpa using h1, ⟨by rw [hL]; exact hl, nofun, hcap⟩, hC, rd_of_cells2 a _ fun j u hu => ?_⟩
    have hflen := flat_len cs sz ((List.range len).map f) fun x hx => hlen x (hC x hx)
    rw [hL] at hflen
    have hj : j < len * sz := by have := (List.getElem?_eq_some_iff.1 hu).1; omega
    have hsz : 0 < sz := by
      rcases Nat.eq_zero_or_pos sz with h | h
      · rw [h] at hj; omega
      · exact h
    have hq : j / sz < len := Nat.div_lt_of_lt_mul (by rw [Nat.mul_comm]; exact hj)
    have hr : j % sz < sz := Nat.mod_lt _ hsz
    have hd : j / sz * sz + j % sz = j := by rw [Nat.mul_comm]; exact Nat.div_add_mod j sz
    have hat := flat_at cs sz ((List.range len).map f) (fun x hx => hlen x (hC x hx)) (j / sz) (f (j / sz)) (by simp [hq])
    obtain ⟨_, _, hce⟩ := World.cells?_some (hf (j / sz) hq).2
    have h5 := hce (j % sz) hr
    have h6 : (cs (f (j / sz)))[j % sz]? = some u := by
      rw [← hat, List.getElem?_take, if_pos hr, List.getElem?_drop, hd, hu]
    rw [h6, add_add, hd] at h5
    exact h5
end
end Go.Proofs.YtodbmeklbamcfaaGreat

/- A list of spans that came in, opened. -/
namespace Go.Proofs.YtodbmeklbamcfaaGreat
open Go.ChangeShapes Go.WideShapes Go.RowKit Go.Rt Go.Deep

section
variable {H : Type} {enc : TypeId × Value → H} {w : World} {base : Nat} {spare : Nat → Bool} {held : Bool}
def OkSp (s : Sp) : Prop := s.lo.length ≤ maxLen ∧ s.hi.length ≤ maxLen
set_option maxRecDepth 100000 in
theorem sp_of_trod {fuel : Nat} {cs : List Value} {y : DataW H × List MemPlace} (h : DataW.trod enc Tryz.prog w base spare held fuel 74 cs = some y) : ∃ s : Sp, OkSp s ∧ cs = s.cs := by
  have c2 : Tryz.prog.cellsOf 74 = 2 := by kernel_rfl
  have c9 : Tryz.prog.cellsOf 9 = 1 := by kernel_rfl
  obtain ⟨xs, n, rfl, hy, hlen, hxl, hf⟩ := DataW.trod_struct Tryz.underlying74 h
  rw [c2] at hlen
  match cs, hlen with
  | [a, b], _ =>
    match xs, hxl with
    | [y0, y1], _ =>
      have f0 : DataW.trod enc Tryz.prog w base spare held n 9 (([a, b].drop 0).take (Tryz.prog.cellsOf 9)) = some y0 := hf 0 _ rfl
      have f1 : DataW.trod enc Tryz.prog w base spare held n 9 (([a, b].drop 1).take (Tryz.prog.cellsOf 9)) = some y1 := hf 1 _ rfl
      rw [c9] at f0 f1
      obtain ⟨s, e0, z0, w0⟩ := DataW.trod_string Tryz.underlying9 f0
      obtain ⟨t, e1, z1, w1⟩ := DataW.trod_string Tryz.underlying9 f1
      simp at e0 e1
      refine ⟨⟨s.data.toList, t.data.toList⟩, ⟨?_, ?_⟩, by rw [e0, e1]; rfl⟩
      · show s.data.toList.length ≤ maxLen
        rw [Array.length_toList]
        exact w0
      · show t.data.toList.length ≤ maxLen
        rw [Array.length_toList]
        exact w1
theorem open_spans {fuel : Nat} {v : Value} {y : DataW H × List MemPlace} (h : DataW.trod enc Tryz.prog w base spare held fuel 23 [v] = some y) :
    ∃ (A : Option Addr) (c : Nat) (ts : List Sp), v = .slice A ts.length c ∧ Bsl A ts.length c ∧ (∀ x ∈ ts, OkSp x) ∧ Rd w A (spC ts) :=
  open_list3 Sp.cs 2 OkSp ⟨[], []⟩ Tryz.underlying23 (by kernel_rfl) (fun _ _ => rfl) sp_of_trod h
end
end Go.Proofs.YtodbmeklbamcfaaGreat

/- Lists of pairs and of writes, and a span, that came in, opened. -/
namespace Go.Proofs.YtodbmeklbamcfaaGreat
open Go.ChangeShapes Go.WideShapes Go.RowKit Go.Rt Go.Deep

section
variable {H : Type} {enc : TypeId × Value → H} {w : World} {base : Nat} {spare : Nat → Bool} {held : Bool}
def OkPr (s : Pr) : Prop := s.k.length ≤ maxLen ∧ s.v.length ≤ maxLen
def OkWt (s : Wt) : Prop := s.k.length ≤ maxLen ∧ s.v.length ≤ maxLen
set_option maxRecDepth 100000 in
theorem pr_of_trod {fuel : Nat} {cs : List Value} {y : DataW H × List MemPlace} (h : DataW.trod enc Tryz.prog w base spare held fuel 125 cs = some y) : ∃ s : Pr, OkPr s ∧ cs = s.cs := by
  have c2 : Tryz.prog.cellsOf 125 = 2 := by kernel_rfl
  have c9 : Tryz.prog.cellsOf 9 = 1 := by kernel_rfl
  obtain ⟨xs, n, rfl, hy, hlen, hxl, hf⟩ := DataW.trod_struct Tryz.underlying125 h
  rw [c2] at hlen
  match cs, hlen with
  | [a, b], _ =>
    match xs, hxl with
    | [y0, y1], _ =>
      have f0 : DataW.trod enc Tryz.prog w base spare held n 9 (([a, b].drop 0).take (Tryz.prog.cellsOf 9)) = some y0 := hf 0 _ rfl
      have f1 : DataW.trod enc Tryz.prog w base spare held n 9 (([a, b].drop 1).take (Tryz.prog.cellsOf 9)) = some y1 := hf 1 _ rfl
      rw [c9] at f0 f1
      obtain ⟨s, e0, z0, w0⟩ := DataW.trod_string Tryz.underlying9 f0
      obtain ⟨t, e1, z1, w1⟩ := DataW.trod_string Tryz.underlying9 f1
      simp at e0 e1
      refine ⟨⟨s.data.toList, t.data.toList⟩, ⟨?_, ?_⟩, by rw [e0, e1]; rfl⟩
      · show s.data.toList.length ≤ maxLen
        rw [Array.length_toList]
        exact w0
      · show t.data.toList.length ≤ maxLen
        rw [Array.length_toList]
        exact w1
set_option maxRecDepth 100000 in
theorem wt_of_trod {fuel : Nat} {cs : List Value} {y : DataW H × List MemPlace} (h : DataW.trod enc Tryz.prog w base spare held fuel 65 cs = some y) : ∃ s : Wt, OkWt s ∧ cs = s.cs := by
  have c2 : Tryz.prog.cellsOf 65 = 3 := by kernel_rfl
  have c9 : Tryz.prog.cellsOf 9 = 1 := by kernel_rfl
  have c4 : Tryz.prog.cellsOf 4 = 1 := by kernel_rfl
  obtain ⟨xs, n, rfl, hy, hlen, hxl, hf⟩ := DataW.trod_struct Tryz.underlying65 h
  rw [c2] at hlen
  match cs, hlen with
  | [a, b, c], _ =>
    match xs, hxl with
    | [y0, y1, y2], _ =>
      have f0 : DataW.trod enc Tryz.prog w base spare held n 9 (([a, b, c].drop 0).take (Tryz.prog.cellsOf 9)) = some y0 := hf 0 _ rfl
      have f1 : DataW.trod enc Tryz.prog w base spare held n 9 (([a, b, c].drop 1).take (Tryz.prog.cellsOf 9)) = some y1 := hf 1 _ rfl
      have f2 : DataW.trod enc Tryz.prog w base spare held n 4 (([a, b, c].drop 2).take (Tryz.prog.cellsOf 4)) = some y2 := hf 2 _ rfl
      rw [c9] at f0 f1
      rw [c4] at f2
      obtain ⟨s, e0, z0, w0⟩ := DataW.trod_string Tryz.underlying9 f0
      obtain ⟨t, e1, z1, w1⟩ := DataW.trod_string Tryz.underlying9 f1
      obtain ⟨d, e2, z2⟩ := DataW.trod_bool Tryz.underlying4 f2
      simp at e0 e1 e2
      refine ⟨⟨s.data.toList, t.data.toList, d⟩, ⟨?_, ?_⟩, by rw [e0, e1, e2]; rfl⟩
      · show s.data.toList.length ≤ maxLen
        rw [Array.length_toList]
        exact w0
      · show t.data.toList.length ≤ maxLen
        rw [Array.length_toList]
        exact w1
theorem open_pairs {fuel : Nat} {v : Value} {y : DataW H × List MemPlace} (h : DataW.trod enc Tryz.prog w base spare held fuel 54 [v] = some y) :
    ∃ (A : Option Addr) (c : Nat) (ts : List Pr), v = .slice A ts.length c ∧ Bsl A ts.length c ∧ (∀ x ∈ ts, OkPr x) ∧ Rd w A (prC ts) :=
  open_list3 Pr.cs 2 OkPr ⟨[], []⟩ Tryz.underlying54 (by kernel_rfl) (fun _ _ => rfl) pr_of_trod h
theorem open_writes {fuel : Nat} {v : Value} {y : DataW H × List MemPlace} (h : DataW.trod enc Tryz.prog w base spare held fuel 24 [v] = some y) :
    ∃ (A : Option Addr) (c : Nat) (ts : List Wt), v = .slice A ts.length c ∧ Bsl A ts.length c ∧ (∀ x ∈ ts, OkWt x) ∧ Rd w A (wtC ts) :=
  open_list3 Wt.cs 3 OkWt ⟨[], [], false⟩ Tryz.underlying24 (by kernel_rfl) (fun _ _ => rfl) wt_of_trod h
end
end Go.Proofs.YtodbmeklbamcfaaGreat
