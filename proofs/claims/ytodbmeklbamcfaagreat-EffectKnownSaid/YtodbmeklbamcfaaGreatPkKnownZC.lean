/- A pack of texts: KdH, KdI, KdJ, KgB, KgE, KgF, KdK, KfA -/
import Derived.Test.YtodbmeklbamcfaaGreatPkKnownW
import Derived.Test.YtodbmeklbamcfaaGreatPkKnownZA
import Derived.Test.YtodbmeklbamcfaaGreatPkKnownI
import Derived.Test.YtodbmeklbamcfaaGreatPkKnownB
import Derived.Laws.Cover1
/- The keys that are in spans; whether some are among others, or in spans. -/
namespace Go.Proofs.YtodbmeklbamcfaaGreat
open Go.RowKit Go.Rt

set_option maxRecDepth 100000 in
theorem eAmong1_any {W w : World} {L : List SL} (q : Nat) (A : Option Addr) (c : Nat) (s : List Sp) (k : Str) (hs : s.length ≤ maxLen) (hr : RdL W L A (spC s)) (hq : ∀ w', Sat W w' L → w'.cell? ⟨q, 0, none⟩ = some (.slice A s.length c)) (H : Sat W w L) :
    Calls Tryz.prog 161 #[.string ⟨k.toArray⟩, .pointer (some ⟨q, 0, none⟩)] w fun e w' => e = .returned (.bool (!hasSp s k)) ∧ Sat W w' L := by
  have h := sHas_any k A c s hs hr H
  have HH := Lib.hid h
  have hc := hq w H
  clear h hq
  generalize hasSp s k = bb at *
  go_enter Tryz.func161, Tryz.ntmps161
  go_wp2_with fail
  refine HH.out.mono ?_
  rintro e w2 ⟨rfl, H2⟩
  go_wp2
  go_ret
  exact ⟨rfl, H2⟩

set_option maxRecDepth 100000 in
set_option maxHeartbeats 4000000 in
theorem eIndexFunc_any {W w : World} {L : List SL} (q : Nat) (A A' : Option Addr) (c c' : Nat) (s : List Sp) (l : List Str) (hl : l.length ≤ maxLen) (hs : s.length ≤ maxLen) (hr : RdL W L A (spC s)) (hq : ∀ w', Sat W w' L → w'.cell? ⟨q, 0, none⟩ = some (.slice A s.length c)) (hx : RdL W L A' (tsC l)) (H : Sat W w L) :
    Calls Tryz.prog 216 #[.slice A' l.length c', .func (.func 161) #[] #[.pointer (some ⟨q, 0, none⟩)]] w fun e w' => ((e = .returned (.int .i64 (-1)) ∧ l.filter (hasSp s) = l) ∨ ∃ j : Nat, e = .returned (.int .i64 j) ∧ j < l.length ∧ (l.take (j + 1)).filter (hasSp s) = l.take j) ∧ Sat W w' L := by
  have hl' := hl
  unfold maxLen at hl'
  have HA := Lib.hid (fun (w0 : World) (k : Str) (h : Sat W w0 L) => eAmong1_any (W := W) (w := w0) (L := L) q A c s k hs hr hq h)
  have HX := Lib.hid hx
  clear hq hr hs hx
  go_enter Tryz.func216, Tryz.ntmps216
  go_wp2
  go_loopw [8] (fun i wc => ∃ j : Nat, j ≤ l.length ∧ i = .int .i64 j ∧ Hid ((l.take j).filter (hasSp s) = l.take j) ∧ Sat W wc L) (fun i _ => l.length - (intOf i).toNat)
  case atStart => exact ⟨0, by omega, rfl, Lib.hid rfl, H⟩
  case round =>
    obtain ⟨j, hj, rfl, hN, H1⟩ := hrel
    by_cases hlt : j < l.length
    · obtain ⟨x, hs⟩ : ∃ s, l[j]? = some s := ⟨_, List.getElem?_eq_getElem hlt⟩
      obtain ⟨b, o, rfl, c0⟩ := ts_at (HX.out _ H1) j x hs
      have HI := Lib.hid (HA.out wr x H1)
      have htk : l.take (j + 1) = l.take j ++ [x] := by rw [List.take_add_one, hs]; rfl
      have HTK := Lib.hid htk
      clear hs htk
      cases hb : hasSp s x with
      | true =>
        rw [hb] at HI
        have hN2 : (l.take (j + 1)).filter (hasSp s) = l.take (j + 1) := by rw [HTK.out, List.filter_append, hN.out]; simp [hb]
        have HN2 := Lib.hid hN2
        clear hb hN2
        go_wp2_with fail
        refine HI.out.mono ?_
        rintro e w2 ⟨rfl, H2⟩
        go_wp2
        exact ⟨⟨j + 1, by omega, by go_num, HN2, H2⟩, by simp [intOf]; omega⟩
      | false =>
        rw [hb] at HI
        have hN2 : (l.take (j + 1)).filter (hasSp s) = l.take j := by rw [HTK.out, List.filter_append, hN.out]; simp [hb]
        have HN2 := Lib.hid hN2
        clear hb hN2
        go_wp2_with fail
        refine HI.out.mono ?_
        rintro e w2 ⟨rfl, H2⟩
        go_wp2
        go_ret
        exact ⟨.inr ⟨j, rfl, hlt, HN2.out⟩, H2⟩
    · obtain rfl : j = l.length := by omega
      have hf : l.filter (hasSp s) = l := by have := hN.out; rwa [List.take_length] at this
      have HF := Lib.hid hf
      clear hf
      go_wp2
      go_ret
      exact ⟨.inl ⟨rfl, HF.out⟩, H1⟩
end Go.Proofs.YtodbmeklbamcfaaGreat

/- The keys that are in spans; whether some are among others, or in spans. -/
namespace Go.Proofs.YtodbmeklbamcfaaGreat
open Go.RowKit Go.Rt

structure DelSt (xs : List Str) (p : Str → Bool) (i j : Nat) (ys : List Str) : Prop where
  hj : j ≤ xs.length
  hij : i < j
  len : ys.length = xs.length
  fst : ys.take i = (xs.take j).filter p
  rst : ys.drop j = xs.drop j
theorem DelSt.start {xs : List Str} {p : Str → Bool} {j : Nat} (hj : j < xs.length) (h : (xs.take (j + 1)).filter p = xs.take j) : DelSt xs p j (j + 1) xs := ⟨hj, by omega, rfl, h.symm, rfl⟩
theorem DelSt.at {xs ys : List Str} {p : Str → Bool} {i j : Nat} (h : DelSt xs p i j ys) : ys[j]? = xs[j]? := by
  have e := congrArg (fun l => l[0]?) h.rst
  simpa using e
theorem DelSt.keep {xs ys : List Str} {p : Str → Bool} {i j : Nat} {x : Str} (h : DelSt xs p i j ys) (hx : xs[j]? = some x) (hp : p x = true) : DelSt xs p (i + 1) (j + 1) (ys.set i x) := by
  have hj := (List.getElem?_eq_some_iff.1 hx).1
  have hl := h.len
  have hi := h.hij
  refine ⟨hj, by omega, by simpa using h.len, ?_, ?_⟩
  · rw [List.take_add_one (l := xs), hx, List.filter_append, ← h.fst, List.take_add_one, List.take_set, List.getElem?_set_self (by omega)]
    congr 1
    · exact List.set_eq_of_length_le (by rw [List.length_take]; omega)
    · simp [hp]
  · rw [List.drop_set_of_lt (by omega), ← List.drop_drop, h.rst, List.drop_drop]
theorem DelSt.skip {xs ys : List Str} {p : Str → Bool} {i j : Nat} {x : Str} (h : DelSt xs p i j ys) (hx : xs[j]? = some x) (hp : p x = false) : DelSt xs p i (j + 1) ys := by
  have hj := (List.getElem?_eq_some_iff.1 hx).1
  have hi := h.hij
  refine ⟨hj, by omega, h.len, ?_, ?_⟩
  · rw [List.take_add_one (l := xs), hx, List.filter_append, ← h.fst]; simp [hp]
  · rw [← List.drop_drop, h.rst, List.drop_drop]
theorem tsC_set (l : List Str) (i : Nat) (x : Str) : (tsC l).set i (.string ⟨x.toArray⟩) = tsC (l.set i x) := by
  unfold tsC
  rw [List.map_set]
theorem tsC_take (l : List Str) (i : Nat) : (tsC l).take i = tsC (l.take i) := by
  unfold tsC
  rw [List.map_take]

set_option maxRecDepth 100000 in
set_option maxHeartbeats 4000000 in
theorem eDeleteFunc_any {W w : World} {L : List SL} (q : Nat) (A A' : Option Addr) (c c' : Nat) (s : List Sp) (l : List Str) (hl : l.length ≤ 1000000000) (hs : s.length ≤ maxLen) (hr : RdL W L A (spC s)) (hq : ∀ w', Sat W w' L → w'.cell? ⟨q, 0, none⟩ = some (.slice A s.length c)) (H : Sat W w (seenS 9 (.slice A' l.length c') l.length (tsC l) :: L)) :
    Calls Tryz.prog 160 #[.slice A' l.length c', .func (.func 161) #[] #[.pointer (some ⟨q, 0, none⟩)]] w fun e w' => ∃ A2, e = .returned (.slice A2 (l.filter (hasSp s)).length c') ∧ Sat W w' (seenS 9 (.slice A2 (l.filter (hasSp s)).length c') (l.filter (hasSp s)).length (tsC (l.filter (hasSp s))) :: L) := by
  have HI := Lib.hid (eIndexFunc_any q A A' c c' s l (by unfold maxLen; omega) hs hr.tail (fun w' h => hq w' h.tail) RdL.seenS H)
  have HA := Lib.hid (fun (w0 : World) (k : Str) (ys : List Str) (n : Nat) (h : Sat W w0 (seenS 9 (.slice A' n c') n (tsC ys) :: L)) => eAmong1_any (W := W) (w := w0) (L := seenS 9 (.slice A' n c') n (tsC ys) :: L) q A c s k hs hr.tail (fun w' h => hq w' h.tail) h)
  clear hr hq hs
  go_enter Tryz.func160, Tryz.ntmps160
  go_wp2_with fail
  refine HI.out.mono ?_
  rintro e w1 ⟨h | h, H1⟩
  · obtain ⟨rfl, hf⟩ := h
    have HF := Lib.hid hf
    clear HI HA hf
    go_wp2
    go_ret
    rw [HF.out]
    exact ⟨_, rfl, H1⟩
  · obtain ⟨j0, rfl, hj0, hf⟩ := h
    have hst := Lib.hid (DelSt.start hj0 hf)
    obtain ⟨g, rfl⟩ := H1.new_some (by omega)
    have hne : ((j0 : Int) == -1) = false := by simp
    clear HI hf H
    go_wp2
    go_loopw [5, 6] (fun i j wc => ∃ (i' j' : Nat) (ys : List Str), i = .int .i64 i' ∧ j = .int .i64 j' ∧ Hid (DelSt l (hasSp s) i' j' ys) ∧ Sat W wc (seenS 9 (.slice (some ⟨g, 0, none⟩) l.length c') l.length (tsC ys) :: L)) (fun _ j _ => l.length - (intOf j).toNat)
    case atStart => exact ⟨j0, j0 + 1, l, rfl, by go_num, hst, H1⟩
    case round =>
      obtain ⟨i, j, ys, rfl, rfl, hd, H2⟩ := hrel
      have hj := hd.out.hj
      have hij := hd.out.hij
      clear H1 hst
      by_cases hlt : j < l.length
      · obtain ⟨x, hx⟩ : ∃ x, l[j]? = some x := ⟨_, List.getElem?_eq_getElem hlt⟩
        have hy : (tsC ys)[j]? = some (.string ⟨x.toArray⟩) := by
          unfold tsC
          rw [List.getElem?_map, hd.out.at, hx]; rfl
        have hc := H2.seen_at j hy
        have HB := Lib.hid (HA.out wr x ys _ H2)
        cases hb : hasSp s x with
        | true =>
          rw [hb] at HB
          have hd2 := Lib.hid (hd.out.keep hx hb)
          have HS := Lib.hid (fun w0 (h : Sat W w0 (seenS 9 (.slice (some ⟨g, 0, none⟩) l.length c') l.length (tsC ys) :: L)) => h.seen_set i (by omega) (.string ⟨x.toArray⟩))
          have hyi : ∃ u, (tsC ys)[i]? = some u := ⟨_, List.getElem?_eq_getElem (by rw [tsC_len, hd.out.len]; omega)⟩
          obtain ⟨u, hyi⟩ := hyi
          have HYI := Lib.hid hyi
          clear hb hx hy HA hyi
          go_wp2_with fail
          refine HB.out.mono ?_
          rintro e w2 ⟨rfl, H3⟩
          have hci := H3.seen_at i HYI.out
          have hfz := H3.seen_frz i
          clear HB H2
          go_wp2
          refine ⟨⟨i + 1, j + 1, _, by go_num, by go_num, hd2, ?_⟩, by simp [intOf]; omega⟩
          rw [← tsC_set]
          exact HS.out _ H3
        | false =>
          rw [hb] at HB
          have hd2 := Lib.hid (hd.out.skip hx hb)
          clear hb hx hy HA
          go_wp2_with fail
          refine HB.out.mono ?_
          rintro e w2 ⟨rfl, H3⟩
          clear HB H2
          go_wp2
          exact ⟨⟨i, j + 1, _, rfl, by go_num, hd2, H3⟩, by simp [intOf]; omega⟩
      · obtain rfl : j = l.length := by omega
        have hf : ys.take i = l.filter (hasSp s) := by rw [hd.out.fst, List.take_length]
        have hn : (l.filter (hasSp s)).length = i := by rw [← hf, List.length_take, hd.out.len]; omega
        have HF := Lib.hid hf
        have HN := Lib.hid hn
        have hlc : l.length ≤ c' := by obtain ⟨_, _, h, _⟩ := H2.new_blk; exact h
        obtain ⟨i0, hi, hz0, hz1, hz2⟩ := info_parts infoStr
        clear hf hn HA
        go_wp2_with (first
          | (refine wpList_slice_from (by rfl) (.tmp 36) (.tmp 37) 22 rfl 9 i0 Tryz.underlying22 hi hz1 _ l.length c' i rfl rfl (by omega) ?_)
          | (refine wpList_clear_seen (e := 9) rfl rfl (.tmp 38) 22 rfl Tryz.underlying22 (fun w => rfl) i (by omega) rfl H2 ?_
             intro w3 H3)
          | (refine wpList_slice_to (by rfl) (.tmp 39) (.tmp 40) 22 rfl 9 i0 Tryz.underlying22 hi _ l.length c' i rfl rfl (by omega) ?_))
        go_ret
        rw [HN.out]
        refine ⟨_, rfl, ?_⟩
        rw [← HF.out, ← tsC_take]
        have e0 : subA (some (⟨g, 0, none⟩ : Addr)) c' 0 = some ⟨g, 0, none⟩ := by
          unfold subA
          rw [if_neg (by omega)]
          rfl
        rw [e0]
        exact H3
end Go.Proofs.YtodbmeklbamcfaaGreat

/- keys.Among, keys.Meets: the program's own answers. -/
namespace Go.Proofs.YtodbmeklbamcfaaGreat
open Go.RowKit Go.Rt

def amongS (l : List Str) (s : List Sp) : List Str := (sortS l).filter (hasSp s)
def meetsB (l some : List Str) (s : List Sp) : Bool := decide (0 < (bothS l some).length) || decide (0 < (amongS l s).length)
theorem among_len (l : List Str) (s : List Sp) : (amongS l s).length ≤ l.length := Nat.le_trans (List.length_filter_le _ _) (sortS_len l)

set_option maxRecDepth 100000 in
set_option maxHeartbeats 4000000 in
theorem eAmong_any {W w : World} {L : List SL} (A A' : Option Addr) (c c' : Nat) (l : List Str) (s : List Sp) (hl : l.length ≤ 1000000000) (hxl : ∀ x ∈ l, x.length ≤ maxLen) (hs : s.length ≤ maxLen) (hr : RdL W L A (tsC l)) (hr' : RdL W L A' (spC s)) (H : Sat W w L) :
    Calls Tryz.prog 118 #[.slice A l.length c, .slice A' s.length c'] w fun e w' => ∃ A2 c2, e = .returned (.slice A2 (amongS l s).length c2) ∧ Sat W w' (seenS 9 (.slice A2 (amongS l s).length c2) (amongS l s).length (tsC (amongS l s)) :: L) := by
  have H1 := H.alloc #[.slice A' s.length c'] 23
  have HS := Lib.hid (eSort_sat A c l hl hxl (hr.tail _ H1) H1)
  have HD := Lib.hid (fun (w1 : World) (A1 : Option Addr) (c1 : Nat) (h : Sat W w1 (seenS 9 (.slice A1 (sortS l).length c1) (sortS l).length (tsC (sortS l)) :: pt w.heap.size #[.slice A' s.length c'] 23 :: L)) => eDeleteFunc_any (W := W) (w := w1) w.heap.size A' A1 c' c1 s (sortS l) (by have := sortS_len l; omega) hs hr'.tail (fun w' h => h.cell 0) h)
  unfold amongS
  clear hr hr' hl hs hxl
  go_enter Tryz.func118, Tryz.ntmps118
  go_wp2_with fail
  refine HS.out.mono ?_
  rintro e w1 ⟨A1, c1, rfl, H2⟩
  clear HS
  go_wp2_with fail
  refine (HD.out _ _ _ H2).mono ?_
  rintro e w2 ⟨A2, rfl, H3⟩
  clear HD
  go_wp2
  go_ret
  exact ⟨A2, c1, rfl, H3.swap.tail⟩

set_option maxRecDepth 100000 in
set_option maxHeartbeats 4000000 in
theorem eMeets_any {W w : World} {L : List SL} (A A' A'' : Option Addr) (c c' c'' : Nat) (l some : List Str) (s : List Sp) (hl : l.length ≤ 100000000) (hxl : ∀ x ∈ l, x.length ≤ maxLen) (ho : some.length ≤ 100000000) (hxo : ∀ x ∈ some, x.length ≤ maxLen) (hs : s.length ≤ maxLen) (hr : RdL W L A (tsC l)) (hr' : RdL W L A' (tsC some)) (hr'' : RdL W L A'' (spC s)) (H : Sat W w L) :
    Calls Tryz.prog 75 #[.slice A l.length c, .slice A' some.length c', .slice A'' s.length c''] w fun e w' => e = .returned (.bool (meetsB l some s)) ∧ Sat W w' L := by
  have HB := Lib.hid (eBoth_any A A' c c' l some hl ho hxl hxo hr hr' H)
  have HA := Lib.hid (fun (w1 : World) (L1 : List SL) (h1 : RdL W L1 A (tsC l)) (h2 : RdL W L1 A'' (spC s)) (h : Sat W w1 L1) => eAmong_any (W := W) (w := w1) (L := L1) A A'' c c'' l s (by omega) hxl hs h1 h2 h)
  unfold meetsB
  clear hl ho hs hxl hxo
  generalize amongS l s = am at *
  go_enter Tryz.func75, Tryz.ntmps75
  by_cases hb : 0 < (bothS l some).length
  · have hb1 : (0 : Int) < ((bothS l some).length : Int) := by omega
    rw [decide_eq_true hb]
    go_wp2_with fail
    refine HB.out.mono ?_
    rintro e w1 ⟨A1, c1, rfl, H2⟩
    clear HB HA hb
    generalize (bothS l some).length = n at *
    go_wp2
    go_ret
    exact ⟨rfl, H2.tail⟩
  · have hb1 : (bothS l some).length = 0 := by omega
    rw [decide_eq_false hb]
    rw [hb1] at HB
    go_wp2_with fail
    refine HB.out.mono ?_
    rintro e w1 ⟨A1, c1, rfl, H2⟩
    have HA1 := Lib.hid (HA.out w1 _ hr.tail hr''.tail H2)
    clear HB HA hb hr hr' hr'' hb1
    go_wp2_with fail
    refine HA1.out.mono ?_
    rintro e w2 ⟨A2, c2, rfl, H3⟩
    clear HA1
    go_wp2
    go_ret
    refine ⟨?_, H3.tail.tail⟩
    simp
end Go.Proofs.YtodbmeklbamcfaaGreat

/- Plain laws on effects: which may be, which keys they meet. No program in sight. -/
namespace Go.Proofs.YtodbmeklbamcfaaGreat

structure Ef where
  why : Int
  steps : Int
  rs : List Str
  ss : List Sp
  ws : List Wt
def Ef.keys (x : Ef) : List Str := x.ws.map Wt.k
def fineX (x : Ef) : Bool := decide (0 ≤ x.why ∧ x.why ≤ 3) && (decide (0 ≤ x.steps ∧ x.steps ≤ 200) && (checkK x.rs && (checkK x.keys && (spansB x.ss && (x.rs.all keyB && (x.ws.all mayW && (decide (x.why = 0) || x.ws.isEmpty)))))))
def checkX (x : Ef) : Int := if 60 < x.rs.length + x.ss.length + x.ws.length then 3 else if fineX x then 0 else 2
def meetsX (x : Ef) (l : List Str) : Bool := meetsB l x.rs x.ss

theorem meets_any (l o : List Str) (s : List Sp) : meetsB l o s = l.any fun k => hasK o k || hasSp s k := by
  unfold meetsB
  rw [Bool.eq_iff_iff, Bool.or_eq_true, decide_eq_true_iff, decide_eq_true_iff, List.length_pos_iff_exists_mem, List.length_pos_iff_exists_mem, List.any_eq_true]
  constructor
  · rintro (⟨k, h⟩ | ⟨k, h⟩)
    · unfold bothS walkS at h
      obtain ⟨h1, h2⟩ := List.mem_filter.1 h
      exact ⟨k, (mem_sortS l k).1 h1, by simp only [beq_iff_eq] at h2; rw [h2]; rfl⟩
    · unfold amongS at h
      obtain ⟨h1, h2⟩ := List.mem_filter.1 h
      exact ⟨k, (mem_sortS l k).1 h1, by rw [h2, Bool.or_true]⟩
  · rintro ⟨k, h, hk⟩
    rcases Bool.or_eq_true _ _ ▸ hk with h2 | h2
    · exact .inl ⟨k, List.mem_filter.2 ⟨(mem_sortS l k).2 h, by rw [h2]; rfl⟩⟩
    · exact .inr ⟨k, List.mem_filter.2 ⟨(mem_sortS l k).2 h, h2⟩⟩
theorem meetsX_single (x : Ef) (l : List Str) : meetsX x l = l.any fun k => meetsX x [k] := by
  unfold meetsX
  rw [meets_any]
  simp only [meets_any, List.any_cons, List.any_nil, Bool.or_false]
theorem meetsX_more (x : Ef) (l : List Str) (more : Str) (h : meetsX x l = true) : meetsX { x with rs := x.rs ++ [more] } l = true := by
  unfold meetsX at h ⊢
  rw [meets_any, List.any_eq_true] at h ⊢
  obtain ⟨k, hk, h2⟩ := h
  refine ⟨k, hk, ?_⟩
  dsimp only
  unfold hasK at h2 ⊢
  simp only [Bool.or_eq_true, decide_eq_true_eq, List.mem_append] at h2 ⊢
  rcases h2 with h2 | h2
  · exact .inl (.inl h2)
  · exact .inr h2
theorem meetsX_new (x : Ef) (more : Str) : meetsX { x with rs := x.rs ++ [more] } [more] = true := by
  unfold meetsX
  rw [meets_any]
  simp [hasK]
theorem meetsX_nil (x : Ef) : meetsX x [] = false := by
  unfold meetsX
  rw [meets_any]
  rfl
end Go.Proofs.YtodbmeklbamcfaaGreat

/- Plain laws on lists that are read one by one: with a stop at the first fault, or without. No program in sight. -/
namespace Go.Proofs.YtodbmeklbamcfaaGreat

/-- A reader: its place, its fault and where that is. -/
structure RS where
  pl : Nat
  fe : Int
  fa : Int
section
variable {α : Type} (one : RS → α × RS)
def rAcc (s : RS) : Nat → List α × RS
  | 0 => ([], s)
  | n + 1 => if (rAcc s n).2.fe ≠ 0 then rAcc s n else ((rAcc s n).1 ++ [(one (rAcc s n).2).1], (one (rAcc s n).2).2)
def rAll (s : RS) : Nat → List α × RS
  | 0 => ([], s)
  | n + 1 => ((rAll s n).1 ++ [(one (rAll s n).2).1], (one (rAll s n).2).2)
variable {one}
theorem rAcc_stuck {s : RS} {j : Nat} (h : (rAcc one s j).2.fe ≠ 0) : ∀ k, rAcc one s (j + k) = rAcc one s j
  | 0 => rfl
  | k + 1 => by
    show (if (rAcc one s (j + k)).2.fe ≠ 0 then rAcc one s (j + k) else _) = _
    rw [rAcc_stuck h k, if_pos h]
theorem rAcc_to {s : RS} {j n : Nat} (hj : j ≤ n) (h : j = n ∨ (rAcc one s j).2.fe ≠ 0) : rAcc one s n = rAcc one s j := by
  rcases h with rfl | h
  · rfl
  · obtain ⟨k, rfl⟩ : ∃ k, n = j + k := ⟨n - j, by omega⟩
    exact rAcc_stuck h k
theorem rAcc_more {s : RS} {j : Nat} (h : (rAcc one s j).2.fe = 0) : rAcc one s (j + 1) = ((rAcc one s j).1 ++ [(one (rAcc one s j).2).1], (one (rAcc one s j).2).2) := by
  show (if (rAcc one s j).2.fe ≠ 0 then _ else _) = _
  rw [if_neg (by simpa using h)]
theorem rAll_len (s : RS) : ∀ n, (rAll one s n).1.length = n
  | 0 => rfl
  | n + 1 => by show ((rAll one s n).1 ++ [_]).length = _; rw [List.length_append, rAll_len s n]; rfl
theorem rAcc_len (s : RS) : ∀ n, (rAcc one s n).1.length ≤ n
  | 0 => Nat.le_refl _
  | n + 1 => by
    have := rAcc_len s n
    show (if (rAcc one s n).2.fe ≠ 0 then rAcc one s n else _).1.length ≤ _
    split
    · omega
    · rw [List.length_append]; simp; exact this
/-- With and without the stop the reader comes to the same, and so does what is read, if there is no fault. -/
theorem rAcc_all (hs : ∀ s, s.fe ≠ 0 → (one s).2 = s) (s : RS) : ∀ n, (rAcc one s n).2 = (rAll one s n).2 ∧ ((rAll one s n).2.fe = 0 → rAcc one s n = rAll one s n)
  | 0 => ⟨rfl, fun _ => rfl⟩
  | n + 1 => by
    obtain ⟨h1, h2⟩ := rAcc_all hs s n
    by_cases h : (rAcc one s n).2.fe ≠ 0
    · have e1 : rAcc one s (n + 1) = rAcc one s n := if_pos h
      have h' : (rAll one s n).2.fe ≠ 0 := by rw [← h1]; exact h
      have e2 : (rAll one s (n + 1)).2 = (rAll one s n).2 := hs _ h'
      rw [e1, e2]
      exact ⟨h1, fun h3 => absurd h3 h'⟩
    · have h3 : (rAcc one s n).2.fe = 0 := by simpa using h
      have h4 := h2 (by rw [← h1]; exact h3)
      rw [rAcc_more h3, h4]
      exact ⟨rfl, fun _ => rfl⟩
theorem rAcc_keeps {p : RS → Prop} (hp : ∀ s, p s → p (one s).2) {s : RS} (h : p s) : ∀ n, p (rAcc one s n).2
  | 0 => h
  | n + 1 => by
    have := rAcc_keeps hp h n
    show p (if (rAcc one s n).2.fe ≠ 0 then rAcc one s n else _).2
    split
    · exact this
    · exact hp _ this
theorem rAll_keeps {p : RS → Prop} (hp : ∀ s, p s → p (one s).2) {s : RS} (h : p s) : ∀ n, p (rAll one s n).2
  | 0 => h
  | n + 1 => hp _ (rAll_keeps hp h n)
theorem rAcc_mem {q : α → Prop} (hq : ∀ s, q (one s).1) (s : RS) : ∀ n, ∀ x ∈ (rAcc one s n).1, q x
  | 0, _, hx => by cases hx
  | n + 1, x, hx => by
    have hx' : x ∈ (if (rAcc one s n).2.fe ≠ 0 then rAcc one s n else ((rAcc one s n).1 ++ [(one (rAcc one s n).2).1], (one (rAcc one s n).2).2)).1 := hx
    split at hx'
    · exact rAcc_mem hq s n x hx'
    · rcases List.mem_append.1 hx' with h | h
      · exact rAcc_mem hq s n x h
      · rw [List.mem_singleton.1 h]; exact hq _
end
end Go.Proofs.YtodbmeklbamcfaaGreat

/- Plain laws on lists that are read one by one: where a list was written it is read; what was read was written so. No program in sight. -/
namespace Go.Proofs.YtodbmeklbamcfaaGreat

theorem split_at {α : Type} {l : List α} {j : Nat} {x : α} (h : l[j]? = some x) : l = l.take j ++ x :: l.drop (j + 1) := by
  obtain ⟨hj, rfl⟩ := List.getElem?_eq_some_iff.1 h
  rw [List.getElem_cons_drop, List.take_append_drop]
theorem take_succ_of {α : Type} {l : List α} {j : Nat} {x : α} (h : l[j]? = some x) : l.take (j + 1) = l.take j ++ [x] := by rw [List.take_add_one, h]; rfl
theorem rAcc_here {α : Type} {one : List UInt8 → RS → α × RS} {enc : α → List UInt8} (l : List α) (h : ∀ x ∈ l, ∀ pre rest : List UInt8, one (pre ++ (enc x ++ rest)) ⟨pre.length, 0, 0⟩ = (x, ⟨pre.length + (enc x).length, 0, 0⟩)) (pre rest : List UInt8) :
    ∀ j, j ≤ l.length → rAcc (one (pre ++ (l.flatMap enc ++ rest))) ⟨pre.length, 0, 0⟩ j = (l.take j, ⟨pre.length + ((l.take j).flatMap enc).length, 0, 0⟩)
  | 0, _ => by simp [rAcc]
  | j + 1, hj => by
    have ih := rAcc_here l h pre rest j (by omega)
    obtain ⟨x, hx⟩ : ∃ x, l[j]? = some x := ⟨_, List.getElem?_eq_getElem (by omega)⟩
    have e : pre ++ (l.flatMap enc ++ rest) = (pre ++ (l.take j).flatMap enc) ++ (enc x ++ ((l.drop (j + 1)).flatMap enc ++ rest)) := by
      have e1 : l.flatMap enc = (l.take j).flatMap enc ++ (enc x ++ (l.drop (j + 1)).flatMap enc) := by
        conv => lhs; rw [split_at hx]
        rw [List.flatMap_append, List.flatMap_cons]
      rw [e1]
      simp only [List.append_assoc]
    have h1 := h x (List.mem_of_getElem? hx) (pre ++ (l.take j).flatMap enc) ((l.drop (j + 1)).flatMap enc ++ rest)
    rw [← e, List.length_append] at h1
    rw [rAcc_more (by rw [ih]), ih]
    dsimp only
    rw [h1, take_succ_of hx, List.flatMap_append, List.length_append]
    simp [Nat.add_assoc]
theorem rAcc_back {α : Type} {one : RS → α × RS} {enc : α → List UInt8} {bs : List UInt8} (hB : ∀ s : RS, s.pl ≤ bs.length → s.fe = 0 → s.fa = 0 → (one s).2.fe = 0 → bs.take (one s).2.pl = bs.take s.pl ++ enc (one s).1 ∧ (one s).2.pl ≤ bs.length ∧ (one s).2.fa = 0) (s : RS) (hp : s.pl ≤ bs.length) (h0 : s.fa = 0) :
    ∀ n, (rAcc one s n).2.fe = 0 → bs.take (rAcc one s n).2.pl = bs.take s.pl ++ (rAcc one s n).1.flatMap enc ∧ (rAcc one s n).2.pl ≤ bs.length ∧ (rAcc one s n).2.fa = 0 ∧ (rAcc one s n).1.length = n
  | 0, _ => ⟨by simp [rAcc], hp, h0, rfl⟩
  | n + 1, h => by
    by_cases h1 : (rAcc one s n).2.fe = 0
    · obtain ⟨e1, e2, e3, e4⟩ := rAcc_back hB s hp h0 n h1
      rw [rAcc_more h1] at h ⊢
      obtain ⟨f1, f2, f3⟩ := hB _ e2 h1 e3 h
      refine ⟨?_, f2, f3, by simp [e4]⟩
      dsimp only
      rw [f1, e1, List.flatMap_append, List.append_assoc]
      simp
    · have e : rAcc one s (n + 1) = rAcc one s n := if_pos h1
      rw [e] at h
      exact absurd h h1
end Go.Proofs.YtodbmeklbamcfaaGreat

/- Spans that are too long or too many. -/
namespace Go.Proofs.YtodbmeklbamcfaaGreat
open Go.RowKit Go.Rt

def bigSp (s : Sp) : Bool := decide (100 < s.lo.length) || decide (100 < s.hi.length)
def longS (l : List Sp) (n : Nat) : Bool := decide (n < l.length) || (l.take (n + 1)).any bigSp
theorem longS_no {l : List Sp} {n : Nat} (h : longS l n = false) : l.length ≤ n ∧ ∀ x ∈ l, bigSp x = false := by
  unfold longS at h
  rw [Bool.or_eq_false_iff, decide_eq_false_iff_not] at h
  refine ⟨by omega, fun x hx => ?_⟩
  have h2 := h.2
  rw [List.any_eq_false, List.take_of_length_le (by omega)] at h2
  have := h2 x hx
  simpa using this

set_option maxRecDepth 100000 in
set_option maxHeartbeats 1000000 in
theorem LongSpans_any {w : World} (A : Option Addr) (c : Nat) (l : List Sp) (n : Nat) (hn : n ≤ 1000000) (hl : l.length ≤ maxLen) (hr : Rd w A (spC l)) :
    Calls Tryz.prog 59 #[.slice A l.length c, .int .i64 n] w fun e w' => e = .returned (.bool (longS l n)) ∧ w = w' := by
  have hl' := hl
  unfold maxLen at hl'
  go_enter Tryz.func59, Tryz.ntmps59
  go_wp2
  go_loop [5] (fun i => ∃ j : Nat, j ≤ l.length ∧ j ≤ n + 1 ∧ i = .int .i64 j ∧ Hid (∀ k x, k < j → l[k]? = some x → bigSp x = false)) (fun i => n + 1 - (intOf i).toNat)
  case atStart => exact ⟨0, by omega, by omega, rfl, fun k x hk => by omega⟩
  case round =>
    obtain ⟨j, hj, hjn, rfl, hN⟩ := hrel
    by_cases hlt : j < l.length
    · by_cases hj2 : j ≤ n
      · obtain ⟨x, hx⟩ : ∃ x, l[j]? = some x := ⟨_, List.getElem?_eq_getElem hlt⟩
        obtain ⟨b, o, rfl, c0, c1⟩ := sp_rd hr j x hx
        have hf : bigSp x = true → longS l n = true := fun hq => by
          unfold longS
          rw [Bool.or_eq_true, List.any_eq_true]
          right
          exact ⟨x, List.mem_of_getElem? (by rw [List.getElem?_take, if_pos (show j < n + 1 by omega)]; exact hx), hq⟩
        have HF := Lib.hid hf
        have HX := Lib.hid hx
        obtain ⟨lo, hi⟩ := x
        dsimp only at c0 c1
        clear hx hf
        by_cases hq : 100 < lo.length
        · have HG := Lib.hid (HF.out (by unfold bigSp; simp [hq]))
          have hq2 : (100 : Int) < (lo.length : Int) := by omega
          go_wp2
          go_ret
          exact ⟨by rw [HG.out]; rfl, rfl⟩
        · have hq2 : ¬ (100 : Int) < (lo.length : Int) := by omega
          by_cases hp : 100 < hi.length
          · have HG := Lib.hid (HF.out (by unfold bigSp; simp [hp]))
            have hp2 : (100 : Int) < (hi.length : Int) := by omega
            go_wp2
            go_ret
            exact ⟨by rw [HG.out]; rfl, rfl⟩
          · have hp2 : ¬ (100 : Int) < (hi.length : Int) := by omega
            have HG := Lib.hid (show bigSp ⟨lo, hi⟩ = false by unfold bigSp; simp [hq, hp])
            clear hq hp
            go_wp2
            refine ⟨⟨j + 1, by omega, by omega, by go_num, fun k y hk hy => ?_⟩, by simp [intOf]; omega⟩
            rcases Nat.lt_or_ge k j with h | h
            · exact hN.out k y h hy
            · obtain rfl : k = j := by omega
              rw [HX.out] at hy; cases hy; exact HG.out
      · have hf : longS l n = true := by unfold longS; rw [Bool.or_eq_true]; left; simp; omega
        have HF := Lib.hid hf
        clear hf
        have hq3 : (n : Int) < (l.length : Int) := by omega
        go_wp2
        go_ret
        exact ⟨by rw [HF.out]; rfl, rfl⟩
    · obtain rfl : j = l.length := by omega
      have hf : longS l n = decide (n < l.length) := by
        unfold longS
        have : (l.take (n + 1)).any bigSp = false := by
          rw [List.any_eq_false]
          intro x hx
          obtain ⟨k, hk⟩ := List.getElem?_of_mem (List.mem_of_mem_take hx)
          have := hN.out k x (List.getElem?_eq_some_iff.1 hk).1 hk
          simp [this]
        rw [this, Bool.or_false]
      have HF := Lib.hid hf
      clear hf
      by_cases h9 : n < l.length
      · go_wp2
        go_ret
        exact ⟨by rw [HF.out]; simp [h9], rfl⟩
      · go_wp2
        go_ret
        exact ⟨by rw [HF.out]; simp [h9], rfl⟩
end Go.Proofs.YtodbmeklbamcfaaGreat

/- The document's answers on keys and spans, that only read. -/
namespace Go.Proofs.YtodbmeklbamcfaaGreat
open Go.RowKit Go.Rt

set_option maxRecDepth 100000 in
set_option maxHeartbeats 4000000 in
theorem hCheck_any {w : World} (A : Option Addr) (c : Nat) (l : List Str) (hl : l.length ≤ maxLen) (hr : Rd w A (tsC l)) :
    Calls Tryz.prog 79 #[.slice A l.length c] w fun e w' => e = .returned (.bool (checkK l)) ∧ Below w.heap.size w w' := by
  have hl' := hl
  unfold maxLen at hl'
  go_enter Tryz.func79, Tryz.ntmps79
  go_wp2
  go_loopw [3] (fun i wc => ∃ j : Nat, (j ≤ l.length ∨ j = 1) ∧ 1 ≤ j ∧ i = .int .i64 j ∧ Hid (∀ k x y, k + 1 < j → l[k]? = some x → l[k + 1]? = some y → x < y) ∧ Below w.heap.size w wc) (fun i _ => l.length - (intOf i).toNat)
  case atStart => exact ⟨1, by omega, by omega, rfl, (fun k x y hk => by omega), Below.refl _ _⟩
  case round =>
    obtain ⟨j, hj, hj1, rfl, hN, hB⟩ := hrel
    by_cases hlt : j < l.length
    · obtain ⟨k, hk0⟩ : ∃ k, Hid (j = k + 1) := ⟨j - 1, by show _ = _; omega⟩
      have hkl : k < l.length := by have := hk0.out; omega
      obtain ⟨x, hx⟩ : ∃ x, l[k]? = some x := ⟨_, List.getElem?_eq_getElem hkl⟩
      obtain ⟨y, hy⟩ : ∃ y, l[j]? = some y := ⟨_, List.getElem?_eq_getElem hlt⟩
      obtain ⟨b, o, rfl, hc⟩ := ts_at (hr.below hB) k x hx
      obtain ⟨b', o', hbo, hc'⟩ := ts_at (hr.below hB) j y hy
      cases hbo
      have hs : IntKind.i64.wrap ((j : Int) - 1) = (k : Int) := by have := hk0.out; rw [IntWalk.i64_in _ (by omega)]; omega
      clear hr
      by_cases hq : x < y
      · have h1 : Op.bytesLess y x = false := less_no fun h => str_irrefl x (str_trans hq h)
        have h2 : (y == x) = false := beq_no fun h => str_irrefl x (by rw [h] at hq; exact hq)
        have h3 : Op.bytesLess x y = true := less_yes hq
        have HQ := Lib.hid hq
        have HX := Lib.hid hx
        have HY := Lib.hid hy
        clear hq hx hy
        go_wp2
        go_quiet (fail)
        go_wp2
        refine ⟨⟨j + 1, by omega, by omega, by go_num, ?_, below_drew' hB _⟩, by simp [intOf]; omega⟩
        intro k2 a b hk ha hb
        have hk1 := hk0.out
        rcases Nat.lt_or_ge (k2 + 1) j with h | h
        · exact hN.out k2 a b h ha hb
        · obtain rfl : k2 = k := by omega
          rw [HX.out] at ha; cases ha
          rw [← hk1, HY.out] at hb; cases hb
          exact HQ.out
      · have hf := checkK_no hx (by rw [← hk0.out]; exact hy) hq
        have HF := Lib.hid hf
        clear hf
        rcases str_total y x with h | h | h
        · have h1 : Op.bytesLess y x = true := less_yes h
          have h3 : Op.bytesLess x y = false := less_no hq
          clear hq hx hy
          go_wp2
          go_quiet (fail)
          go_wp2
          go_ret
          exact ⟨by rw [HF.out]; rfl, below_drew' hB _⟩
        · have h1 : Op.bytesLess y x = false := less_no fun h' => str_irrefl x (by rw [h] at h'; exact h')
          have h2 : (y == x) = true := beq_yes h
          have h3 : Op.bytesLess x y = false := less_no hq
          clear hq hx hy h
          go_wp2
          go_quiet (fail)
          go_wp2
          go_ret
          exact ⟨by rw [HF.out]; rfl, below_drew' hB _⟩
        · exact absurd h hq
    · have hf : checkK l = true := (checkK_adj l).2 fun k x y ha hb => by
        have := (List.getElem?_eq_some_iff.1 hb).1
        exact hN.out k x y (by omega) ha hb
      go_wp2
      go_ret
      exact ⟨by first | rfl | (rw [hf]; rfl), hB⟩

set_option maxRecDepth 100000 in
theorem hHas_any {w : World} (A : Option Addr) (c : Nat) (l : List Str) (x : Str) (hl : l.length ≤ maxLen) (hr : Rd w A (tsC l)) :
    Calls Tryz.prog 163 #[.slice A l.length c, .string ⟨x.toArray⟩] w fun e w' => e = .returned (.bool (hasK l x)) ∧ w = w' := by
  have hl' := hl
  unfold maxLen at hl'
  go_enter Tryz.func163, Tryz.ntmps163
  go_wp2
  go_loop [5] (fun i => ∃ j : Nat, j ≤ l.length ∧ i = .int .i64 j ∧ Hid (∀ k y, k < j → l[k]? = some y → y ≠ x)) (fun i => l.length - (intOf i).toNat)
  case atStart => exact ⟨0, by omega, rfl, fun k y hk => by omega⟩
  case round =>
    obtain ⟨j, hj, rfl, hN⟩ := hrel
    by_cases hlt : j < l.length
    · obtain ⟨y, hy⟩ : ∃ y, l[j]? = some y := ⟨_, List.getElem?_eq_getElem hlt⟩
      obtain ⟨b, o, rfl, hc⟩ := ts_at hr j y hy
      by_cases hq : y = x
      · have hf : hasK l x = true := decide_eq_true (by rw [← hq]; exact List.mem_of_getElem? hy)
        have HF := Lib.hid hf
        have h1 := beq_yes hq
        clear hf hq hy
        go_wp2
        go_ret
        exact ⟨by rw [HF.out]; rfl, rfl⟩
      · have HY := Lib.hid hy
        have HQ := Lib.hid hq
        have h1 := beq_no hq
        clear hq hy
        go_wp2
        refine ⟨⟨j + 1, by omega, by go_num, fun k z hk hz => ?_⟩, by simp [intOf]; omega⟩
        rcases Nat.lt_or_ge k j with h | h
        · exact hN.out k z h hz
        · obtain rfl : k = j := by omega
          rw [HY.out] at hz; cases hz; exact HQ.out
    · obtain rfl : j = l.length := by omega
      have hf : hasK l x = false := decide_eq_false fun h => by
        obtain ⟨k, hk⟩ := List.getElem?_of_mem h
        exact hN.out k x (List.getElem?_eq_some_iff.1 hk).1 hk rfl
      have HF := Lib.hid hf
      clear hf
      go_wp2
      go_ret
      exact ⟨by rw [HF.out]; rfl, rfl⟩
set_option maxRecDepth 100000 in
theorem rIn_any {W w : World} {L : List SL} (lo hi k : Str) (H : Sat W w L) :
    Calls Tryz.prog 220 #[.agg #[.string ⟨lo.toArray⟩, .string ⟨hi.toArray⟩], .string ⟨k.toArray⟩] w fun e w' => e = .returned (.bool (inB ⟨lo, hi⟩ k)) ∧ Sat W w' L := by
  have H1 := H.alloc #[.string ⟨lo.toArray⟩, .string ⟨hi.toArray⟩] 74
  unfold inB belowB
  dsimp only
  go_enter Tryz.func220, Tryz.ntmps220
  by_cases h : k < lo
  · have h1 := less_yes h
    have h2 : (k == lo) = false := beq_no fun e => str_irrefl lo (by rw [e] at h; exact h)
    have h3 : (lo == k) = false := beq_no fun e => str_irrefl lo (by rw [← e] at h; exact h)
    have h4 : Op.bytesLess lo k = false := less_no fun e => str_irrefl k (str_trans h e)
    rw [decide_eq_true h]
    clear h
    go_wp2
    go_ret
    exact ⟨by simp, H1.tail⟩
  · have h0 := less_no h
    rw [decide_eq_false h]
    have hh : (Op.bytesLess lo k = true ∧ (k == lo) = false ∧ (lo == k) = false) ∨ (Op.bytesLess lo k = false ∧ (k == lo) = true ∧ (lo == k) = true) := by
      rcases str_total lo k with e | e | e
      · exact .inl ⟨less_yes e, beq_no fun x => str_irrefl lo (by rw [x] at e; exact e), beq_no fun x => str_irrefl lo (by rw [← x] at e; exact e)⟩
      · exact .inr ⟨less_no fun x => str_irrefl lo (by rw [← e] at x; exact x), beq_yes e.symm, beq_yes e⟩
      · exact absurd e h
    clear h
    by_cases g : hi = []
    · subst g
      rcases hh with ⟨h1, h2, h3⟩ | ⟨h1, h2, h3⟩
      all_goals
        go_wp2
        go_ret
        exact ⟨by simp, H1.tail⟩
    · have g1 : hi.isEmpty = false := by cases hi with | nil => exact absurd rfl g | cons x l => rfl
      rw [decide_eq_false g]
      by_cases g2 : k < hi
      · have g3 := less_yes g2
        rw [decide_eq_true g2]
        clear g g2
        rcases hh with ⟨h1, h2, h3⟩ | ⟨h1, h2, h3⟩
        all_goals
          go_wp2
          go_ret
          exact ⟨by simp, H1.tail⟩
      · have g3 := less_no g2
        rw [decide_eq_false g2]
        clear g g2
        rcases hh with ⟨h1, h2, h3⟩ | ⟨h1, h2, h3⟩
        all_goals
          go_wp2
          go_ret
          exact ⟨by simp, H1.tail⟩
set_option maxRecDepth 100000 in
set_option maxHeartbeats 4000000 in
theorem rHas_any {W w : World} {L : List SL} (k : Str) (A : Option Addr) (c : Nat) (l : List Sp) (hl : l.length ≤ maxLen) (hr : RdL W L A (spC l)) (H : Sat W w L) :
    Calls Tryz.prog 164 #[.slice A l.length c, .string ⟨k.toArray⟩] w fun e w' => e = .returned (.bool (hasSp l k)) ∧ Sat W w' L := by
  have hl' := hl
  unfold maxLen at hl'
  go_enter Tryz.func164, Tryz.ntmps164
  go_wp2
  go_loopw [5] (fun i wc => ∃ j : Nat, j ≤ l.length ∧ i = .int .i64 j ∧ Hid (∀ m s, m < j → l[m]? = some s → inB s k = false) ∧ Sat W wc L) (fun i _ => l.length - (intOf i).toNat)
  case atStart => exact ⟨0, by omega, rfl, (fun m s h => by omega), H⟩
  case round =>
    obtain ⟨j, hj, rfl, hN, H1⟩ := hrel
    by_cases hlt : j < l.length
    · obtain ⟨s, hs⟩ : ∃ s, l[j]? = some s := ⟨_, List.getElem?_eq_getElem hlt⟩
      obtain ⟨b, o, rfl, c0, c1⟩ := sp_rd (hr _ H1) j s hs
      have HS := Lib.hid hs
      obtain ⟨lo, hi⟩ := s
      dsimp only at c0 c1
      have HI := Lib.hid (rIn_any lo hi k H1)
      clear hs
      cases hb : inB ⟨lo, hi⟩ k with
      | true =>
        rw [hb] at HI
        have hf : hasSp l k = true := List.any_eq_true.2 ⟨⟨lo, hi⟩, List.mem_of_getElem? HS.out, hb⟩
        have HF := Lib.hid hf
        clear hb hf
        go_wp2_with fail
        refine HI.out.mono ?_
        rintro e w2 ⟨rfl, H2⟩
        go_wp2
        go_ret
        exact ⟨by rw [HF.out]; rfl, H2⟩
      | false =>
        rw [hb] at HI
        have HBB := Lib.hid hb
        clear hb
        go_wp2_with fail
        refine HI.out.mono ?_
        rintro e w2 ⟨rfl, H2⟩
        go_wp2
        refine ⟨⟨j + 1, by omega, by go_num, fun m s hm hs => ?_, H2⟩, by simp [intOf]; omega⟩
        rcases Nat.lt_or_ge m j with h | h
        · exact hN.out m s h hs
        · obtain rfl : m = j := by omega
          rw [HS.out] at hs; cases hs; exact HBB.out
    · obtain rfl : j = l.length := by omega
      have hf : hasSp l k = false := by
        unfold hasSp
        rw [List.any_eq_false]
        intro s hs
        obtain ⟨m, hm⟩ := List.getElem?_of_mem hs
        simp [hN.out m s (List.getElem?_eq_some_iff.1 hm).1 hm]
      have HF := Lib.hid hf
      clear hf
      go_wp2
      go_ret
      exact ⟨by rw [HF.out]; rfl, H1⟩
end Go.Proofs.YtodbmeklbamcfaaGreat
