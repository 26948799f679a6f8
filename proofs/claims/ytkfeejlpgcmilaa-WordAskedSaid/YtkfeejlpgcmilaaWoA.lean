/- A list of things that came in, opened to its cells. -/
import Derived.Test.YtkfeejlpgcmilaaRows
import Derived.Test.YtkfeejlpgcmilaaWdI
import Derived.ProofKit
import Derived.SizedLaws
import Derived.Deep.Slices
import Derived.OpenShut
namespace Go.Proofs.Ytkfeejlpgcmilaa
open Go.ChangeShapes Go.WideShapes Go.RowKit Go.Rt Go.Deep

theorem rd_of_cells {w : World} (a : Addr) (xs : List Value) (h : ∀ j u, xs[j]? = some u → w.cell? (a.add j) = some u) : Rd w (some a) xs := by
  intro j u hu
  have h0 : ∃ u0, xs[0]? = some u0 := by
    cases xs with
    | nil => simp at hu
    | cons x xs => exact ⟨x, rfl⟩
  obtain ⟨u0, h0⟩ := h0
  have h1 := h 0 u0 h0
  have hs : a.spot = none := by
    have e : a.add 0 = a := by simp [Addr.add]
    rw [e] at h1
    cases hsp : a.spot with
    | none => rfl
    | some k =>
      exfalso
      unfold World.cell? at h1
      split at h1
      · simp [hsp] at h1
      · cases h1
  obtain ⟨b, o, s⟩ := a
  dsimp only at hs
  subst hs
  refine ⟨b, o, rfl, ?_⟩
  have := h j u hu
  rwa [Addr.add_lit] at this

theorem bytes_of : ∀ vs : List Value, (∀ i, i < vs.length → ∃ m : Int, vs[i]? = some (.int .u8 m) ∧ 0 ≤ m ∧ m < 256) → ∃ d : List UInt8, vs = d.map B
  | [], _ => ⟨[], rfl⟩
  | v :: vs, h => by
    obtain ⟨d, hd⟩ := bytes_of vs fun i hi => by
      have := h (i + 1) (by simpa using hi)
      simpa using this
    obtain ⟨m, hm, h0, h1⟩ := h 0 (by simp)
    simp at hm
    refine ⟨UInt8.ofNat m.toNat :: d, ?_⟩
    rw [List.map_cons, ← hd, hm]
    congr 1
    unfold B
    congr 1
    rw [UInt8.toNat_ofNat']
    omega

section
variable {H : Type} {enc : TypeId × Value → H} {w : World} {base : Nat} {spare : Nat → Bool} {held : Bool}

theorem wf_u8 {m : Int} (h : (Lit.int .u8 m).wf = true) : 0 ≤ m ∧ m < 256 := by
  have e1 : IntKind.u8.min = 0 := rfl
  have e2 : IntKind.u8.max = 255 := rfl
  simp only [Lit.wf, Bool.and_eq_true, decide_eq_true_eq] at h
  omega
theorem wf_i64 {m : Int} (h : (Lit.int .i64 m).wf = true) : -9223372036854775808 ≤ m ∧ m ≤ 9223372036854775807 := by
  have e1 : IntKind.i64.min = -9223372036854775808 := rfl
  have e2 : IntKind.i64.max = 9223372036854775807 := rfl
  simp only [Lit.wf, Bool.and_eq_true, decide_eq_true_eq] at h
  omega

/-- What is known of a thing that came in. -/
structure Th.Came (x : Th) : Prop where
  k : -9223372036854775808 ≤ x.k ∧ x.k ≤ 9223372036854775807
  n : -9223372036854775808 ≤ x.n ∧ x.n ≤ 9223372036854775807
  d : x.d.length = 32

theorem bulk_lits (xs : List (DataW H × List MemPlace)) : xs.length ≤ Rows.uptoBulkAll (xs.map (·.1)) := by
  induction xs with
  | nil => simp [Rows.uptoBulkAll]
  | cons x xs ih =>
    have : 1 ≤ Rows.uptoBulk x.1 := by cases x.1 with
      | lit v => cases v <;> simp [Rows.uptoBulk]
      | _ => simp [Rows.uptoBulk]
    simp only [List.map_cons, Rows.uptoBulkAll, List.length_cons]
    omega

theorem thing_of_trod {fuel : Nat} {cs : List Value} {y : DataW H × List MemPlace} (h : DataW.trod enc Try.prog w base spare held fuel 35 cs = some y) :
    ∃ x : Th, x.Came ∧ cs = x.cs ∧ x.s.size + 30 ≤ Rows.uptoBulk y.1 ∧ x.s.size ∈ y.1.weights Try.prog 35 := by
  have c35 : Try.prog.cellsOf 35 = 35 := by kernel_rfl
  have c3 : Try.prog.cellsOf 3 = 1 := by kernel_rfl
  have c9 : Try.prog.cellsOf 9 = 1 := by kernel_rfl
  have c33 : Try.prog.cellsOf 33 = 32 := by kernel_rfl
  have c5 : Try.prog.cellsOf 5 = 1 := by kernel_rfl
  obtain ⟨xs, n, rfl, hy, hlen, hxl, hf⟩ := DataW.trod_struct Try.underlying35 h
  rw [c35] at hlen
  match cs, hlen with
  | a :: b :: c :: rest, hlen =>
    have hr : rest.length = 32 := by simpa using hlen
    match xs, hxl with
    | [y0, y1, y2, y3], _ =>
      have f0 : DataW.trod enc Try.prog w base spare held n 3 (((a :: b :: c :: rest).drop 0).take (Try.prog.cellsOf 3)) = some y0 := hf 0 _ rfl
      have f1 : DataW.trod enc Try.prog w base spare held n 3 (((a :: b :: c :: rest).drop 1).take (Try.prog.cellsOf 3)) = some y1 := hf 1 _ rfl
      have f2 : DataW.trod enc Try.prog w base spare held n 9 (((a :: b :: c :: rest).drop 2).take (Try.prog.cellsOf 9)) = some y2 := hf 2 _ rfl
      have f3 : DataW.trod enc Try.prog w base spare held n 33 (((a :: b :: c :: rest).drop 3).take (Try.prog.cellsOf 33)) = some y3 := hf 3 _ rfl
      rw [c3] at f0 f1
      rw [c9] at f2
      rw [c33] at f3
      obtain ⟨k, e0, _, w0⟩ := DataW.trod_int Try.underlying3 f0
      obtain ⟨m, e1, _, w1⟩ := DataW.trod_int Try.underlying3 f1
      obtain ⟨s, e2, z2, w2⟩ := DataW.trod_string Try.underlying9 f2
      obtain ⟨zs, n', rfl, z3, _, hzl, hz⟩ := DataW.trod_array Try.underlying33 f3
      have er : (List.drop 3 (a :: b :: c :: rest)).take 32 = rest := by
        simp only [List.drop_succ_cons, List.drop_zero]
        exact List.take_of_length_le (by omega)
      rw [er] at hz
      obtain ⟨d, hd⟩ := bytes_of rest fun i hi => by
        have h1 := hz i (by omega)
        rw [c5, Nat.mul_one] at h1
        rw [List.getElem?_eq_getElem (by omega)] at h1
        obtain ⟨m, e, _, hw⟩ := DataW.trod_int Try.underlying5 h1
        refine ⟨m, ?_, wf_u8 hw⟩
        have : (rest.drop i)[0]? = some (.int .u8 m) := by
          have h2 : ((rest.drop i).take 1)[0]? = some (.int .u8 m) := by rw [e]; rfl
          simpa using h2
        simpa using this
      simp at e0 e1 e2
      refine ⟨⟨k, m, s, d⟩, ⟨wf_i64 w0, wf_i64 w1, by rw [hd] at hr; simpa using hr⟩, by rw [e0, e1, e2, hd]; rfl, ?_, ?_⟩
      rotate_left
      · rw [hy]
        show _ ∈ DataW.weights Try.prog 35 (.agg [y0.1, y1.1, y2.1, y3.1])
        rw [z2]
        have hl : s.data.toList.length = s.size := strC_len s
        simp [DataW.weights, DataW.weightsEach, Try.underlying35, hl]
      have hb := bulk_lits zs
      rw [hzl] at hb
      rw [hy]
      show _ ≤ Rows.uptoBulk (.agg [y0.1, y1.1, y2.1, y3.1])
      rw [z2, z3]
      simp only [Rows.uptoBulk, Rows.uptoBulkAll]
      have : s.data.toList.length = s.size := strC_len s
      omega

theorem bulkAll_append (a b : List (DataW H)) : Rows.uptoBulkAll (a ++ b) = Rows.uptoBulkAll a + Rows.uptoBulkAll b := by
  induction a with
  | nil => simp [Rows.uptoBulkAll]
  | cons x a ih => simp only [List.cons_append, Rows.uptoBulkAll, ih]; omega

theorem mem_weightsAll {P : Program} {e : TypeId} {n : Nat} {d : DataW H} : ∀ {l : List (DataW H)}, d ∈ l → n ∈ d.weights P e → n ∈ DataW.weightsAll P e l
  | [], h, _ => by cases h
  | x :: l, h, hn => by
    simp only [DataW.weightsAll, List.mem_append]
    rcases List.mem_cons.1 h with rfl | h
    · exact .inl hn
    · exact .inr (mem_weightsAll h hn)

/-- A list of things that came in: its cells are things, and no more than its reading's bulk. -/
theorem open_things {fuel : Nat} {v : Value} {y : DataW H × List MemPlace} (h : DataW.trod enc Try.prog w base spare held fuel 22 [v] = some y) :
    ∃ (A : Option Addr) (c : Nat) (ts : List Th), v = .slice A ts.length c ∧ (∀ x ∈ ts, x.Came) ∧ Rd w A (thC ts) ∧ (ts.map fun x => x.s.size + 30).sum ≤ Rows.uptoBulk y.1 ∧ ∀ x ∈ ts, x.s.size ∈ y.1.weights Try.prog 22 := by
  have c35 : Try.prog.cellsOf 35 = 35 := by kernel_rfl
  rcases open_slice Try.underlying22 h with ⟨h1, _⟩ | ⟨a, len, cap, m, n, D, Pl, h1, _, hl, _, hm, hy, hi⟩
  · exact ⟨none, 0, [], by simpa using h1, by simp, Rd.nil _ _, by simp, by simp⟩
  · have hlm : len ≤ m := by rw [hm]; split <;> omega
    have hx : ∀ i, ∃ x : Th, i < len → x.Came ∧ w.cells? base (a.add (i * 35)) 35 = some x.cs ∧ x.s.size + 30 ≤ Rows.uptoBulk (D i) ∧ x.s.size ∈ (D i).weights Try.prog 35 := fun i => by
      by_cases hil : i < len
      · obtain ⟨cs', hc, ht⟩ := hi i (by omega)
        rw [c35] at hc
        obtain ⟨x, h2, rfl, h3, h4⟩ := thing_of_trod ht
        exact ⟨x, fun _ => ⟨h2, hc, h3, h4⟩⟩
      · exact ⟨⟨0, 0, ⟨#[]⟩, []⟩, fun h => absurd h hil⟩
    obtain ⟨f, hf⟩ := Classical.axiomOfChoice hx
    have hD : ∀ k, k ≤ len → (((List.range k).map f).map fun x => x.s.size + 30).sum ≤ Rows.uptoBulkAll ((List.range k).map D) := fun k => by
      induction k with
      | zero => intro _; simp
      | succ k ih =>
        intro hk
        have h1 := ih (by omega)
        have h2 := (hf k (by omega)).2.2.1
        rw [List.range_succ, List.map_append, List.map_append, List.sum_append, List.map_append, bulkAll_append]
        simp only [List.map_cons, List.map_nil, List.sum_cons, List.sum_nil, Rows.uptoBulkAll]
        omega
    have hC : ∀ x ∈ (List.range len).map f, x.Came ∧ x.cs.length = 35 := fun x hx => by
      simp only [List.mem_map, List.mem_range] at hx
      obtain ⟨i, hil, rfl⟩ := hx
      have := (hf i hil).1
      exact ⟨this, by simp [Th.cs, this.d]⟩
    refine ⟨some a, cap, (List.range len).map f, by simpa using h1, fun x hx => (hC x hx).1, rd_of_cells a _ fun j u hu => ?_, ?_, ?_⟩
    · have hcell : ∀ (k : Nat), k ≤ len → ∀ j u, (thC ((List.range k).map f))[j]? = some u → w.cell? (a.add j) = some u := fun k => by
        induction k with
        | zero => intro _ j u hu; simp [thC] at hu
        | succ k ih =>
          intro hk j u hu
          have hlen : (thC ((List.range k).map f)).length = k * 35 := by
            have : ∀ k, k ≤ len → (thC ((List.range k).map f)).length = k * 35 := fun k => by
              induction k with
              | zero => intro _; rfl
              | succ k ih =>
                intro hk
                have h3 := (hC (f k) (List.mem_map.2 ⟨k, List.mem_range.2 (by omega), rfl⟩)).2
                have h4 := ih (by omega)
                simp only [thC, List.range_succ, List.map_append, List.flatMap_append, List.map_cons, List.map_nil, List.flatMap_cons, List.flatMap_nil, List.append_nil, List.length_append] at h4 ⊢
                omega
            exact this k (by omega)
          have e : thC ((List.range (k + 1)).map f) = thC ((List.range k).map f) ++ (f k).cs := by
            simp [thC, List.range_succ]
          rw [e] at hu
          by_cases hj : j < k * 35
          · rw [List.getElem?_append_left (by omega)] at hu
            exact ih (by omega) j u hu
          · rw [List.getElem?_append_right (by omega), hlen] at hu
            obtain ⟨_, _, hat⟩ := World.cells?_some (hf k (by omega)).2.1
            have hj2 : j - k * 35 < 35 := by
              have h3 := (hC (f k) (List.mem_map.2 ⟨k, List.mem_range.2 (by omega), rfl⟩)).2
              have := (List.getElem?_eq_some_iff.1 hu).1
              omega
            have h5 := hat (j - k * 35) hj2
            rw [hu, add_add, show k * 35 + (j - k * 35) = j by omega] at h5
            exact h5
      exact hcell len (Nat.le_refl _) j u hu
    · rw [hy]
      have := hD len (Nat.le_refl _)
      simp only [Rows.uptoBulk]
      omega
    · intro x hx
      simp only [List.mem_map, List.mem_range] at hx
      obtain ⟨i, hil, rfl⟩ := hx
      rw [hy]
      simp only [DataW.weights, Try.underlying22]
      exact List.mem_cons_of_mem _ (List.mem_append_left _ (mem_weightsAll (List.mem_map.2 ⟨i, List.mem_range.2 hil, rfl⟩) (hf i hil).2.2.2))
end
end Go.Proofs.Ytkfeejlpgcmilaa
