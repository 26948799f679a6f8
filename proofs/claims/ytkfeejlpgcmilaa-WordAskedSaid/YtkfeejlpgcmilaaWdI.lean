/- The laws' own helpers over package word: all things are written. -/
import Derived.Test.YtkfeejlpgcmilaaWdH
namespace Go.Proofs.Ytkfeejlpgcmilaa
open Go.RowKit Go.Rt

/-- The cells of things in a row. -/
def thC (ts : List Th) : List Value := ts.flatMap Th.cs
/-- What a thing takes at most. -/
def Th.wt (x : Th) : Nat := x.s.size + 41
def wts (ts : List Th) : Nat := (ts.map Th.wt).sum
def putAll (ts : List Th) : List UInt8 := ts.foldl (fun b x => x.put b) []
def badAll (ts : List Th) : Bool := ts.any Th.bad

theorem Th.put_len (x : Th) (h : x.Ok) (bs : List UInt8) : (x.put bs).length ≤ bs.length + x.wt := by
  have h9 := sevF_len 9 x.n.toNat
  have h9' := sevF_len 9 x.s.size
  have hs := strC_len x.s
  have hd := h.d
  unfold Th.put wrInt Th.wt sev
  split
  · split
    · omega
    · simp only [List.length_append]; omega
  · split
    · simp only [List.length_append]; omega
    · split
      · simp only [List.length_append]; omega
      · omega
theorem putAll_snoc (ts : List Th) (x : Th) : putAll (ts ++ [x]) = x.put (putAll ts) := by simp [putAll]
theorem badAll_snoc (ts : List Th) (x : Th) : badAll (ts ++ [x]) = (badAll ts || x.bad) := by simp [badAll]
theorem wts_snoc (ts : List Th) (x : Th) : wts (ts ++ [x]) = wts ts + x.wt := by simp [wts]
theorem wts_append (ts us : List Th) : wts (ts ++ us) = wts ts + wts us := by simp [wts]
theorem put_fold_len (ts : List Th) (h : ∀ x ∈ ts, x.Ok) : ∀ bs : List UInt8, (ts.foldl (fun b (x : Th) => x.put b) bs).length ≤ bs.length + wts ts := by
  induction ts with
  | nil => intro bs; simp [wts]
  | cons x ts ih =>
    intro bs
    have h1 := Th.put_len x (h x (by simp)) bs
    have h2 := ih (fun y hy => h y (by simp [hy])) (x.put bs)
    simp only [List.foldl_cons, wts, List.map_cons, List.sum_cons] at h2 ⊢
    omega
theorem putAll_len (ts : List Th) (h : ∀ x ∈ ts, x.Ok) : (putAll ts).length ≤ wts ts := by
  have := put_fold_len ts h []
  simpa [putAll] using this
theorem Th.cs_len (x : Th) (h : x.Ok) : x.cs.length = 35 := by simp [Th.cs, h.d]
theorem thC_len (ts : List Th) (h : ∀ x ∈ ts, x.Ok) : (thC ts).length = ts.length * 35 := by
  induction ts with
  | nil => rfl
  | cons x ts ih =>
    have := ih fun y hy => h y (by simp [hy])
    have h1 := x.cs_len (h x (by simp))
    simp only [thC, List.flatMap_cons, List.length_append, List.length_cons] at this ⊢
    omega
theorem thC_at (ts : List Th) (h : ∀ x ∈ ts, x.Ok) (j : Nat) (x : Th) (hj : ts[j]? = some x) : ((thC ts).drop (j * 35)).take 35 = x.cs := by
  induction ts generalizing j with
  | nil => simp at hj
  | cons y ts ih =>
    have h1 := y.cs_len (h y (by simp))
    have e : thC (y :: ts) = y.cs ++ thC ts := rfl
    cases j with
    | zero =>
      simp at hj; subst hj
      rw [e, Nat.zero_mul, List.drop_zero, List.take_left' h1]
    | succ j =>
      rw [e, List.drop_append, List.drop_eq_nil_of_le (by omega), List.nil_append, h1]
      rw [show (j + 1) * 35 - 35 = j * 35 by omega]
      exact ih (fun z hz => h z (by simp [hz])) j (by simpa using hj)
theorem rd_thing {w : World} {A : Option Addr} {ts : List Th} (h : Rd w A (thC ts)) (hts : ∀ x ∈ ts, x.Ok) (j : Nat) (x : Th) (hj : ts[j]? = some x) :
    ∃ b o, A = some ⟨b, o, none⟩ ∧ Rd w (some ⟨b, o + j * 35, none⟩) x.cs := by
  have h1 := thC_at ts hts j x hj
  have hx : (thC ts) ≠ [] := by
    intro e
    rw [e] at h1
    simp [Th.cs] at h1
  obtain ⟨b, o, rfl⟩ := h.open hx
  exact ⟨b, o, rfl, by rw [← h1]; exact (h.drop (j * 35)).take 35⟩

/-- What is told of things that were written at once. -/
def AllPost (W : World) (l : List SL) (ts : List Th) (e : Ending) (w' : World) : Prop :=
  if badAll ts then e = .returned (.tuple #[.slice none 0 0, .bool false]) ∧ Sat W w' l
  else ∃ A' c', e = .returned (.tuple #[.slice A' (putAll ts).length c', .bool true]) ∧ Sat W w' (row 5 zB (.slice A' (putAll ts).length c') (putAll ts).length ((putAll ts).map B) :: l)

theorem all_any {W w : World} {l : List SL} (A : Option Addr) (c : Nat) (ts : List Th) (hts : ∀ x ∈ ts, x.Ok) (hb : wts ts ≤ 800000000) (hn : ts.length ≤ 1000000) (hr : RdL W l A (thC ts)) (H : Sat W w l) :
    Calls Try.prog 29 #[.slice A ts.length c] w fun e w' => AllPost W l ts e w' := by
  go_enter Try.func29, Try.ntmps29
  go_wp2_with (go_at_call 12; refine (new_any H).mono ?_; rintro e w1 ⟨rfl, H1⟩)
  generalize w.heap.size = p at H1 ⊢
  go_loopw [5] (fun i wc => ∃ (j : Nat), j ≤ ts.length ∧ i = .int .i64 j ∧ Sat W wc (wr p (putAll (ts.take j)) (badAll (ts.take j)) :: l)) (fun i _ => ts.length - (intOf i).toNat)
  case atStart => exact ⟨0, by omega, rfl, H1⟩
  case round =>
    obtain ⟨j, hj, rfl, H2⟩ := hrel
    clear H1
    by_cases hlt : j < ts.length
    · obtain ⟨x, hx⟩ : ∃ x, ts[j]? = some x := ⟨_, List.getElem?_eq_getElem hlt⟩
      have hxo := hts x (List.mem_of_getElem? hx)
      have hl1 := putAll_len (ts.take j) (fun y hy => hts y (List.mem_of_mem_take hy))
      have hl2 : wts ts = wts (ts.take j) + wts (ts.drop j) := by rw [← wts_append, List.take_append_drop]
      obtain ⟨b, o, rfl, hrx⟩ := rd_thing (hr _ H2.tail) hts j x hx
      have htk : ts.take (j + 1) = ts.take j ++ [x] := by rw [List.take_add_one, hx]; rfl
      have hnx : ∀ w0, Sat W w0 (Go.Proofs.Ytkfeejlpgcmilaa.wr p (x.put (putAll (ts.take j))) (badAll (ts.take j) || x.bad) :: l) → Sat W w0 (Go.Proofs.Ytkfeejlpgcmilaa.wr p (putAll (ts.take (j+1))) (badAll (ts.take (j+1))) :: l) := by
        rw [htk, putAll_snoc, badAll_snoc]; exact fun _ h => h
      have hL : (Try.prog.info? 35).map (·.size) = some x.cs.length := by rw [x.cs_len hxo]; kernel_rfl
      have HL := Lib.hid hL
      have HN := Lib.hid hnx
      clear hL hnx htk
      go_wp2_with (first
        | (go_at_call 15; refine (lwrite_any x hxo (by omega) H2).mono ?_; rintro e w' ⟨rfl, H3⟩)
        | refine wpList_load_rd rfl (.tmp 20) 35 rfl b (o + j * 35) x.cs (by rw [Try.underlying35]) HL.out (by simp [Act.eval]) hrx ?_)
      exact ⟨⟨j + 1, by omega, by go_num, HN.out _ H3⟩, by simp [intOf]; omega⟩
    · obtain rfl : j = ts.length := by omega
      rw [List.take_length] at H2
      cases hbad : badAll ts with
      | true =>
        rw [hbad] at H2
        go_wp2_with (go_at_call 21; refine (wOut_bad H2).mono ?_; rintro e w1 ⟨rfl, n, rfl⟩)
        go_ret2
        unfold AllPost
        rw [if_pos hbad]
        exact ⟨rfl, (H2.drewN n).tail⟩
      | false =>
        rw [hbad] at H2
        have hl1 := putAll_len ts hts
        go_wp2_with (go_at_call 21; refine (wOut_any (by omega) H2).mono ?_; rintro e w1 ⟨A1, c1, rfl, H3⟩)
        go_ret2
        unfold AllPost
        rw [if_neg (by simp [hbad])]
        exact ⟨A1, c1, rfl, H3.swap.tail⟩
end Go.Proofs.Ytkfeejlpgcmilaa
