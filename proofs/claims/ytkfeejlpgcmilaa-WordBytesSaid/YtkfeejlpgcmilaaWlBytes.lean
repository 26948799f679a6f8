/- WordBytes answers true at every list of things. -/
import Derived.Test.YtkfeejlpgcmilaaWdM
import Derived.Test.YtkfeejlpgcmilaaWoA
import Derived.Test.YtkfeejlpgcmilaaWoB
import Derived.Deep.RegionHeld3
namespace Go.Proofs.Ytkfeejlpgcmilaa
open Go.RowKit Go.Rt

theorem size_le_sum (ts : List Th) (x : Th) (h : x ∈ ts) : x.s.size ≤ (ts.map (·.s.size)).sum := by
  induction ts with
  | nil => simp at h
  | cons y ts ih =>
    simp only [List.map_cons, List.sum_cons]
    rcases List.mem_cons.1 h with rfl | h
    · omega
    · have := ih h; omega

set_option maxRecDepth 100000 in
set_option maxHeartbeats 4000000 in
theorem lawBytes_any {W : World} (A : Option Addr) (c : Nat) (ts : List Th) (hc : ∀ x ∈ ts, x.Came) (hb : ∀ x ∈ ts, x.s.size ≤ 140737488355328) (hr : Rd W A (thC ts)) :
    Calls Try.prog 3 #[.slice A ts.length c] W fun e w' => e = .returned (.bool true) ∧ Sat W w' [] := by
  have hd : ∀ x ∈ ts, x.d.length = 32 := fun x hx => (hc x hx).d
  go_enter Try.func3, Try.ntmps3
  go_wp2_with fail
  refine (new_any (Sat.start W)).mono ?_
  rintro e w1 ⟨rfl, H1⟩
  generalize W.heap.size = p at H1 ⊢
  go_wp2_with fail
  refine (bulky_any A c ts hd hb (hr.old H1)).mono ?_
  rintro e _ ⟨rfl, rfl⟩
  cases hB : bulkyB ts with
  | true =>
    go_wp2_with fail
    refine (awake_any H1.tail).mono ?_
    rintro e w2 ⟨rfl, H2⟩
    go_wp2
    go_ret
    exact ⟨rfl, H2⟩
  | false =>
    have hlen : ts.length ≤ 30 ∧ wts ts ≤ 100000 ∧ (ts.map (·.s.size)).sum ≤ 2000 := by
      simp only [bulkyB, Bool.or_eq_false_iff, decide_eq_false_iff_not] at hB
      have h1 : ts.length ≤ 30 := by omega
      have h2 := bulk31_all ts 31 (by omega)
      have h3 := wts_eq ts
      exact ⟨h1, by omega, by omega⟩
    obtain ⟨hl30, hw, hsum⟩ := hlen
    have hok : ∀ x ∈ ts, x.Ok := fun x hx => ⟨(hc x hx).n.2, Nat.le_trans (size_le_sum ts x hx) (by omega), hd x hx⟩
    clear hsum
    clear hB
    go_wp2_with fail
    have H2 : Sat W (w1.alloc (.cells #[.slice none 0 0, .bool false] 30)) (wr p [] false :: xr w1.heap.size [] false :: []) := (xr_shut (A := none) (c := 0) (((H1.alloc _ _).nil 5 zB).swap)).swap
    generalize w1.heap.size = q at H2 ⊢
    go_loopw [5] (fun i wc => ∃ (j : Nat), j ≤ ts.length ∧ i = .int .i64 j ∧ Sat W wc (Go.Proofs.Ytkfeejlpgcmilaa.wr p (putAll (ts.take j)) (badAll (ts.take j)) :: xr q (putAll (ts.take j)) (badAll (ts.take j)) :: [])) (fun i _ => ts.length - (intOf i).toNat)
    case atStart => exact ⟨0, by omega, rfl, H2⟩
    case round =>
      obtain ⟨j, hj, rfl, H3⟩ := hrel
      clear H2
      by_cases hlt : j < ts.length
      · obtain ⟨x, hx⟩ : ∃ x, ts[j]? = some x := ⟨_, List.getElem?_eq_getElem hlt⟩
        have hxo := hok x (List.mem_of_getElem? hx)
        have hl1 := putAll_len (ts.take j) (fun y hy => hok y (List.mem_of_mem_take hy))
        have hl2 : wts ts = wts (ts.take j) + wts (ts.drop j) := by rw [← wts_append, List.take_append_drop]
        obtain ⟨b, o, rfl⟩ := th_open hr j x hx
        have hr0 := th_at hr hd j x hx
        have hrx := hr0.old H3
        have htk : ts.take (j + 1) = ts.take j ++ [x] := by rw [List.take_add_one, hx]; rfl
        have hput : Hid (putAll (ts.take (j + 1)) = x.put (putAll (ts.take j))) := by show _ = _; rw [htk, putAll_snoc]
        have hbad : Hid (badAll (ts.take (j + 1)) = (badAll (ts.take j) || x.bad)) := by show _ = _; rw [htk, badAll_snoc]
        have HL : Hid ((Try.prog.info? 35).map (·.size) = some x.cs.length) := by show _ = _; rw [x.cs_len hxo]; kernel_rfl
        clear htk
        have hN := hxo.n
        have hkk : x.k = 0 ∨ x.k = 1 ∨ x.k = 2 ∨ (decide (x.k = 0) = false ∧ decide (x.k = 1) = false ∧ decide (x.k = 2) = false) := by
          by_cases h0 : x.k = 0
          · exact .inl h0
          by_cases h1 : x.k = 1
          · exact .inr (.inl h1)
          by_cases h2 : x.k = 2
          · exact .inr (.inr (.inl h2))
          exact .inr (.inr (.inr ⟨by simpa using h0, by simpa using h1, by simpa using h2⟩))
        rcases hkk with hk | hk | hk | ⟨h0, h1, h2⟩
        · go_wp2_with (first
            | (go_at_call 15; refine (lwrite_any x hxo (by omega) H3).mono ?_; rintro e w2 ⟨rfl, H4⟩
               have hr4 := hr0.old H4
               have ck : w2.cell? ⟨b, o + j * 35, none⟩ = some (.int .i64 x.k) := hr4.at 0 rfl
               have cn : w2.cell? ⟨b, o + j * 35 + 1, none⟩ = some (.int .i64 x.n) := hr4.at 1 rfl
               have ct : w2.cell? ⟨b, o + j * 35 + 2, none⟩ = some (.string x.s) := hr4.at 2 rfl)
            | refine wpList_load_rd rfl (.tmp 36) 35 rfl b (o + j * 35) x.cs (by rw [Try.underlying35]) HL.out (by simp [Act.eval]) hrx ?_
            | (go_at_call 16; refine (xInt_all x.n hN (by omega) H4.swap).mono ?_; rintro e w3 ⟨rfl, H5'⟩))
          have H5 : Sat W w3 (Go.Proofs.Ytkfeejlpgcmilaa.wr p (x.put (putAll (ts.take j))) (badAll (ts.take j) || x.bad) :: xr q (x.put (putAll (ts.take j))) (badAll (ts.take j) || x.bad) :: []) := by
            have e1 : ∀ bs, x.put bs = wrInt x.n bs := fun bs => by simp [Th.put, hk]
            have e2 : x.bad = decide (x.n < 0) := by simp [Th.bad, hk]
            have := H5'.swap
            rw [e1, e2] at this ⊢
            exact this
          have hr5 := hr0.old H5
          have cn5 : w3.cell? ⟨b, o + j * 35 + 1, none⟩ = some (.int .i64 x.n) := hr5.at 1 rfl
          go_region_held3 (fun w' => w'.cell? ⟨b, o + j * 35 + 1, none⟩ = some (.int .i64 x.n)) (assumption) (first
            | (go_at_call 19; refine (size_all x.n hN _).mono ?_; rintro e w4 ⟨rfl, rfl⟩)
            | (go_at_call 20; refine (xsize_all x.n hN _).mono ?_
               rintro e w5 ⟨rfl, HB5⟩
               have cn6 : w5.cell? ⟨b, o + j * 35 + 1, none⟩ = some (.int .i64 x.n) := (Rd.below (w := w3.drew) hr5 HB5).at 1 rfl))
          go_wp2
          refine ⟨⟨j + 1, by omega, by go_num, ?_⟩, by simp [intOf]; omega⟩
          rw [hput.out, hbad.out]
          exact (H5.drew).below HB5
        · go_wp2_with (first
            | (go_at_call 15; refine (lwrite_any x hxo (by omega) H3).mono ?_; rintro e w2 ⟨rfl, H4⟩
               have hr4 := hr0.old H4
               have ck : w2.cell? ⟨b, o + j * 35, none⟩ = some (.int .i64 x.k) := hr4.at 0 rfl
               have cn : w2.cell? ⟨b, o + j * 35 + 1, none⟩ = some (.int .i64 x.n) := hr4.at 1 rfl
               have ct : w2.cell? ⟨b, o + j * 35 + 2, none⟩ = some (.string x.s) := hr4.at 2 rfl)
            | refine wpList_load_rd rfl (.tmp 36) 35 rfl b (o + j * 35) x.cs (by rw [Try.underlying35]) HL.out (by simp [Act.eval]) hrx ?_
            | (go_at_call 17; refine (xText_any x.s hxo.s (by omega) H4.swap).mono ?_; rintro e w3 ⟨rfl, H5'⟩))
          have H5 : Sat W w3 (Go.Proofs.Ytkfeejlpgcmilaa.wr p (x.put (putAll (ts.take j))) (badAll (ts.take j) || x.bad) :: xr q (x.put (putAll (ts.take j))) (badAll (ts.take j) || x.bad) :: []) := by
            have e1 : ∀ bs, x.put bs = bs ++ sev x.s.size ++ x.s.data.toList := fun bs => by simp [Th.put, hk]
            have e2 : x.bad = false := by simp [Th.bad, hk]
            have := H5'.swap
            rw [e1, e2, Bool.or_false] at this ⊢
            exact this
          have hr5 := hr0.old H5
          have cn5 : w3.cell? ⟨b, o + j * 35 + 1, none⟩ = some (.int .i64 x.n) := hr5.at 1 rfl
          go_region_held3 (fun w' => w'.cell? ⟨b, o + j * 35 + 1, none⟩ = some (.int .i64 x.n)) (assumption) (first
            | (go_at_call 19; refine (size_all x.n hN _).mono ?_; rintro e w4 ⟨rfl, rfl⟩)
            | (go_at_call 20; refine (xsize_all x.n hN _).mono ?_
               rintro e w5 ⟨rfl, HB5⟩
               have cn6 : w5.cell? ⟨b, o + j * 35 + 1, none⟩ = some (.int .i64 x.n) := (Rd.below (w := w3.drew) hr5 HB5).at 1 rfl))
          go_wp2
          refine ⟨⟨j + 1, by omega, by go_num, ?_⟩, by simp [intOf]; omega⟩
          rw [hput.out, hbad.out]
          exact (H5.drew).below HB5
        · have HID : Hid ((Try.prog.info? 33).map (·.size) = some (x.d.map B).length) := by show _ = _; rw [List.length_map, hxo.d]; kernel_rfl
          go_wp2_with (first
            | (go_at_call 15; refine (lwrite_any x hxo (by omega) H3).mono ?_; rintro e w2 ⟨rfl, H4⟩
               have hr4 := hr0.old H4
               have ck : w2.cell? ⟨b, o + j * 35, none⟩ = some (.int .i64 x.k) := hr4.at 0 rfl
               have cn : w2.cell? ⟨b, o + j * 35 + 1, none⟩ = some (.int .i64 x.n) := hr4.at 1 rfl
               have ct : w2.cell? ⟨b, o + j * 35 + 2, none⟩ = some (.string x.s) := hr4.at 2 rfl
               have hrd : Rd w2 (some ⟨b, o + j * 35 + 3, none⟩) (x.d.map B) := hr4.drop 3)
            | refine wpList_load_rd rfl (.tmp 36) 35 rfl b (o + j * 35) x.cs (by rw [Try.underlying35]) HL.out (by simp [Act.eval]) hrx ?_
            | refine wpList_load_rd rfl (.tmp 68) 33 rfl b (o + j * 35 + 3) (x.d.map B) (by rw [Try.underlying33]) HID.out (by simp [Act.eval]) hrd ?_
            | (go_at_call 18; refine (xID_any x.d hxo.d (by omega) H4.swap).mono ?_; rintro e w3 ⟨rfl, H5'⟩))
          have H5 : Sat W w3 (Go.Proofs.Ytkfeejlpgcmilaa.wr p (x.put (putAll (ts.take j))) (badAll (ts.take j) || x.bad) :: xr q (x.put (putAll (ts.take j))) (badAll (ts.take j) || x.bad) :: []) := by
            have e1 : ∀ bs, x.put bs = bs ++ x.d := fun bs => by simp [Th.put, hk]
            have e2 : x.bad = false := by simp [Th.bad, hk]
            have := H5'.swap
            rw [e1, e2, Bool.or_false] at this ⊢
            exact this
          have hr5 := hr0.old H5
          have cn5 : w3.cell? ⟨b, o + j * 35 + 1, none⟩ = some (.int .i64 x.n) := hr5.at 1 rfl
          go_region_held3 (fun w' => w'.cell? ⟨b, o + j * 35 + 1, none⟩ = some (.int .i64 x.n)) (assumption) (first
            | (go_at_call 19; refine (size_all x.n hN _).mono ?_; rintro e w4 ⟨rfl, rfl⟩)
            | (go_at_call 20; refine (xsize_all x.n hN _).mono ?_
               rintro e w5 ⟨rfl, HB5⟩
               have cn6 : w5.cell? ⟨b, o + j * 35 + 1, none⟩ = some (.int .i64 x.n) := (Rd.below (w := w3.drew) hr5 HB5).at 1 rfl))
          go_wp2
          refine ⟨⟨j + 1, by omega, by go_num, ?_⟩, by simp [intOf]; omega⟩
          rw [hput.out, hbad.out]
          exact (H5.drew).below HB5
        · have g0 : ¬ x.k = 0 := by simpa using h0
          have g1 : ¬ x.k = 1 := by simpa using h1
          have g2 : ¬ x.k = 2 := by simpa using h2
          have i0 : (x.k == 0) = false := by simpa using g0
          have i1 : (x.k == 1) = false := by simpa using g1
          have i2 : (x.k == 2) = false := by simpa using g2
          go_wp2_with (first
            | (go_at_call 15; refine (lwrite_any x hxo (by omega) H3).mono ?_; rintro e w2 ⟨rfl, H4⟩
               have hr4 := hr0.old H4
               have ck : w2.cell? ⟨b, o + j * 35, none⟩ = some (.int .i64 x.k) := hr4.at 0 rfl
               have cn : w2.cell? ⟨b, o + j * 35 + 1, none⟩ = some (.int .i64 x.n) := hr4.at 1 rfl
               have ct : w2.cell? ⟨b, o + j * 35 + 2, none⟩ = some (.string x.s) := hr4.at 2 rfl)
            | refine wpList_load_rd rfl (.tmp 36) 35 rfl b (o + j * 35) x.cs (by rw [Try.underlying35]) HL.out (by simp [Act.eval]) hrx ?_)
          have H5 : Sat W w2 (Go.Proofs.Ytkfeejlpgcmilaa.wr p (x.put (putAll (ts.take j))) (badAll (ts.take j) || x.bad) :: xr q (x.put (putAll (ts.take j))) (badAll (ts.take j) || x.bad) :: []) := by
            have e1 : ∀ bs, x.put bs = bs := fun bs => by simp [Th.put, g0, g1, g2]
            have e2 : x.bad = false := by simp [Th.bad, g0]
            rw [e1, e2, Bool.or_false] at H4 ⊢
            exact H4
          have hr5 := hr0.old H5
          have cn5 : w2.cell? ⟨b, o + j * 35 + 1, none⟩ = some (.int .i64 x.n) := hr5.at 1 rfl
          go_region_held3 (fun w' => w'.cell? ⟨b, o + j * 35 + 1, none⟩ = some (.int .i64 x.n)) (assumption) (first
            | (go_at_call 19; refine (size_all x.n hN _).mono ?_; rintro e w4 ⟨rfl, rfl⟩)
            | (go_at_call 20; refine (xsize_all x.n hN _).mono ?_
               rintro e w5 ⟨rfl, HB5⟩
               have cn6 : w5.cell? ⟨b, o + j * 35 + 1, none⟩ = some (.int .i64 x.n) := (Rd.below (w := w2.drew) hr5 HB5).at 1 rfl))
          go_wp2
          refine ⟨⟨j + 1, by omega, by go_num, ?_⟩, by simp [intOf]; omega⟩
          rw [hput.out, hbad.out]
          exact (H5.drew).below HB5
      · obtain rfl : j = ts.length := by omega
        rw [List.take_length] at H3
        have hpl := putAll_len ts hok
        generalize putAll ts = bs at H3 hpl
        cases hbad : badAll ts with
        | true =>
          rw [hbad] at H3
          go_wp2_with fail
          refine (wOut_bad H3).mono ?_
          rintro e w1 ⟨rfl, n1, rfl⟩
          have H4 := (H3.drewN n1).swap
          go_wp2_with fail
          refine (xOut_bad H4).mono ?_
          rintro e w2 ⟨rfl, rfl⟩
          go_wp2_with fail
          refine (same_any none none 0 0 [] [] _ (Rd.nil _ _) (Rd.nil _ _)).mono ?_
          rintro e w2 ⟨rfl, rfl⟩
          rw [show (([] : List UInt8) == []) = true by decide]
          go_wp2_with fail
          refine (over_any none 0 [] (H4.nil 5 zB)).mono ?_
          rintro e w2 ⟨rfl, ys, H5⟩
          go_wp2_with fail
          refine (wOut_bad H5.tail.swap).mono ?_
          rintro e w3 ⟨rfl, n3, rfl⟩
          go_wp2_with fail
          refine (same_any none none 0 0 [] [] _ (Rd.nil _ _) (Rd.nil _ _)).mono ?_
          rintro e w3 ⟨rfl, rfl⟩
          rw [show (([] : List UInt8) == []) = true by decide]
          go_wp2_with fail
          refine (awake_any (H5.tail.tail.tail.drewN n3)).mono ?_
          rintro e w4 ⟨rfl, H6⟩
          go_wp2
          go_ret
          exact ⟨rfl, H6⟩
        | false =>
          rw [hbad] at H3
          have hself : (bs == bs) = true := by simp
          go_wp2_with fail
          refine (wOut_any (by omega) H3).mono ?_
          rintro e w1 ⟨A1, c1, rfl, H4⟩
          go_wp2_with fail
          refine (xOut_any (by omega) (H4.pull 2)).mono ?_
          rintro e w2 ⟨A2, c2, rfl, H5⟩
          go_wp2_with fail
          refine (same_any A1 A2 c1 c2 bs bs _ (H5.pull 2).rd H5.rd).mono ?_
          rintro e _ ⟨rfl, rfl⟩
          rw [hself]
          go_wp2_with fail
          refine (over_any A1 c1 bs (H5.pull 2)).mono ?_
          rintro e w3 ⟨rfl, ys, H6⟩
          go_wp2_with fail
          refine (wOut_any (by omega) (H6.pull 3)).mono ?_
          rintro e w4 ⟨A3, c3, rfl, H7⟩
          go_wp2_with fail
          refine (same_any A3 A2 c3 c2 bs bs _ H7.rd (H7.pull 3).rd).mono ?_
          rintro e _ ⟨rfl, rfl⟩
          rw [hself]
          go_wp2_with fail
          refine (awake_any H7.tail.tail.tail.tail.tail).mono ?_
          rintro e w5 ⟨rfl, H8⟩
          go_wp2
          go_ret
          exact ⟨rfl, H8⟩
end Go.Proofs.Ytkfeejlpgcmilaa
