/- A slice that came in, opened element by element (no package's own types in sight). -/
import Derived.Test.YtnpgjobaibnknaaRows
import Derived.Test.YtnpgjobaibnknaaRtH
import Derived.ProofKit
import Derived.SizedLaws
import Derived.Deep.Slices
import Derived.OpenShut
namespace Go.Proofs.Ytnpgjobaibnknaa
open Go.ChangeShapes Go.WideShapes Go.RowKit Go.Rt Go.Deep

theorem rd_of_cells2 {w : World} (a : Addr) (xs : List Value) (h : ∀ j u, xs[j]? = some u → w.cell? (a.add j) = some u) : Rd w (some a) xs := by
  intro j u hu
  have h0 : ∃ u0, xs[0]? = some u0 := by
    cases xs with
    | nil => simp at hu
    | cons x xs => exact ⟨x, rfl⟩
  obtain ⟨u0, h0⟩ := h0
  have h1 := h 0 u0 h0
  have hs : a.spot = none := by
    have e : a.add 0 = a := by simp [Addr.add]
    rw [e] at h1
    cases hsp : a.spot with
    | none => rfl
    | some k =>
      exfalso
      unfold World.cell? at h1
      split at h1
      · simp [hsp] at h1
      · cases h1
  obtain ⟨b, o, s⟩ := a
  dsimp only at hs
  subst hs
  refine ⟨b, o, rfl, ?_⟩
  have := h j u hu
  rwa [Addr.add_lit] at this
section
variable {H : Type} {enc : TypeId × Value → H} {w : World} {base : Nat} {spare : Nat → Bool} {held : Bool}
theorem wf_i64' {m : Int} (h : (Lit.int .i64 m).wf = true) : -9223372036854775808 ≤ m ∧ m ≤ 9223372036854775807 := by
  have e1 : IntKind.i64.min = -9223372036854775808 := rfl
  have e2 : IntKind.i64.max = 9223372036854775807 := rfl
  simp only [Lit.wf, Bool.and_eq_true, decide_eq_true_eq] at h
  omega
theorem mem_weightsAll2 {P : Program} {e : TypeId} {n : Nat} {d : DataW H} : ∀ {l : List (DataW H)}, d ∈ l → n ∈ d.weights P e → n ∈ DataW.weightsAll P e l
  | [], h, _ => by cases h
  | x :: l, h, hn => by
    simp only [DataW.weightsAll, List.mem_append]
    rcases List.mem_cons.1 h with rfl | h
    · exact .inl hn
    · exact .inr (mem_weightsAll2 h hn)
/-- Each element opened, so is the slice: what its cells are. -/
theorem open_list2 {α : Type} {tS tE : TypeId} (cs : α → List Value) (sz : Nat) (ok : α → Prop) (x0 : α) (wt : α → Nat) (ht : Try.prog.underlying tS = some (.slice tE)) (hc : Try.prog.cellsOf tE = sz) (hlen : ∀ x, ok x → (cs x).length = sz)
    (hel : ∀ {n : Nat} {c : List Value} {y : DataW H × List MemPlace}, DataW.trod enc Try.prog w base spare held n tE c = some y → ∃ x, ok x ∧ c = cs x ∧ wt x ∈ y.1.weights Try.prog tE)
    {fuel : Nat} {v : Value} {y : DataW H × List MemPlace} (h : DataW.trod enc Try.prog w base spare held fuel tS [v] = some y) :
    ∃ (A : Option Addr) (c : Nat) (ts : List α), v = .slice A ts.length c ∧ Bsl A ts.length c ∧ (∀ x ∈ ts, ok x) ∧ Rd w A (ts.flatMap cs) ∧ ∀ x ∈ ts, wt x ∈ y.1.weights Try.prog tS := by
  rcases open_slice ht h with ⟨h1, _⟩ | ⟨a, len, cap, m, n, D, Pl, h1, _, hl, hcap, hm, hy, hi⟩
  · exact ⟨none, 0, [], by simpa using h1, ⟨Nat.le_refl _, fun _ => rfl, by unfold maxLen; omega⟩, by simp, Rd.nil _ _, by simp⟩
  · have hlm : len ≤ m := by rw [hm]; split <;> omega
    have hx : ∀ i, ∃ x : α, i < len → ok x ∧ w.cells? base (a.add (i * sz)) sz = some (cs x) ∧ wt x ∈ (D i).weights Try.prog tE := fun i => by
      by_cases hil : i < len
      · obtain ⟨cs', hc', ht'⟩ := hi i (by omega)
        rw [hc] at hc'
        obtain ⟨x, h2, rfl, h4⟩ := hel ht'
        exact ⟨x, fun _ => ⟨h2, hc', h4⟩⟩
      · exact ⟨x0, fun h => absurd h hil⟩
    obtain ⟨f, hf⟩ := Classical.axiomOfChoice hx
    have hC : ∀ x ∈ (List.range len).map f, ok x := fun x hx => by
      simp only [List.mem_map, List.mem_range] at hx
      obtain ⟨i, hil, rfl⟩ := hx
      exact (hf i hil).1
    have hL : ((List.range len).map f).length = len := by simp
    refine ⟨some a, cap, (List.range len).map f, by rw [hL]; simpa using h1, ⟨by rw [hL]; exact hl, nofun, hcap⟩, hC, rd_of_cells2 a _ fun j u hu => ?_, fun x hx => ?_⟩
    rotate_left
    · simp only [List.mem_map, List.mem_range] at hx
      obtain ⟨i, hil, rfl⟩ := hx
      rw [hy]
      simp only [DataW.weights, ht]
      exact List.mem_cons_of_mem _ (List.mem_append_left _ (mem_weightsAll2 (List.mem_map.2 ⟨i, List.mem_range.2 hil, rfl⟩) (hf i hil).2.2))
    have hflen := flat_len cs sz ((List.range len).map f) fun x hx => hlen x (hC x hx)
    rw [hL] at hflen
    have hj : j < len * sz := by have := (List.getElem?_eq_some_iff.1 hu).1; omega
    have hsz : 0 < sz := by
      rcases Nat.eq_zero_or_pos sz with h | h
      · rw [h] at hj; omega
      · exact h
    have hq : j / sz < len := Nat.div_lt_of_lt_mul (by rw [Nat.mul_comm]; exact hj)
    have hr : j % sz < sz := Nat.mod_lt _ hsz
    have hd : j / sz * sz + j % sz = j := by rw [Nat.mul_comm]; exact Nat.div_add_mod j sz
    have hat := flat_at cs sz ((List.range len).map f) (fun x hx => hlen x (hC x hx)) (j / sz) (f (j / sz)) (by simp [hq])
    obtain ⟨_, _, hce⟩ := World.cells?_some (hf (j / sz) hq).2.1
    have h5 := hce (j % sz) hr
    have h6 : (cs (f (j / sz)))[j % sz]? = some u := by
      rw [← hat, List.getElem?_take, if_pos hr, List.getElem?_drop, hd, hu]
    rw [h6, add_add, hd] at h5
    exact h5
end
end Go.Proofs.Ytnpgjobaibnknaa
