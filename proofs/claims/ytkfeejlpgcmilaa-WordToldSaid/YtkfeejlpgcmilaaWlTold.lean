/- WordTold answers true at all lists of things. -/
import Derived.Test.YtkfeejlpgcmilaaWlPassed
import Derived.Test.YtkfeejlpgcmilaaWeX
import Derived.Test.YtkfeejlpgcmilaaWdU
import Derived.Deep.MidRow
namespace Go.Proofs.Ytkfeejlpgcmilaa
open Go.RowKit Go.Rt

theorem size_le_sum' (ts : List Th) (x : Th) (h : x ∈ ts) : x.s.size ≤ (ts.map (·.s.size)).sum := by
  induction ts with
  | nil => simp at h
  | cons y ts ih =>
    simp only [List.map_cons, List.sum_cons]
    rcases List.mem_cons.1 h with rfl | h
    · omega
    · have := ih h; omega
/-- What is known of a list that is not bulky. -/
theorem small_of {ts : List Th} (hc : ∀ x ∈ ts, x.Came) (hB : bulkyB ts = false) : ts.length ≤ 30 ∧ wts ts ≤ 100000 ∧ ∀ x ∈ ts, x.Ok := by
  simp only [bulkyB, Bool.or_eq_false_iff, decide_eq_false_iff_not] at hB
  have h1 : ts.length ≤ 30 := by omega
  have h2 := bulk31_all ts 31 (by omega)
  have h3 := wts_eq ts
  refine ⟨h1, by omega, fun x hx => ⟨(hc x hx).n.2, Nat.le_trans (size_le_sum' ts x hx) (by omega), (hc x hx).d⟩⟩
theorem typed_things (ts : List Th) (hd : ∀ x ∈ ts, x.d.length = 32) : Typed zT (thC ts) := by
  induction ts with
  | nil => exact Typed.nil zT
  | cons x ts ih =>
    have h1 := th_typed x (hd x (by simp))
    have h2 := ih fun y hy => hd y (by simp [hy])
    refine h1.append h2 ?_
    rw [show x.cs.length = 35 by simp [Th.cs, hd x (by simp)]]; rfl
theorem one_things (ts : List Th) : ∀ u ∈ thC ts, u.oneCell' = true := by
  intro u hu
  simp only [thC, List.mem_flatMap] at hu
  obtain ⟨x, _, hx⟩ := hu
  exact th_one x u hx
theorem wts_append' (ls ms : List Th) : wts (ls ++ ms) = wts ls + wts ms := by simp [wts]

set_option maxRecDepth 100000 in
set_option maxHeartbeats 8000000 in
theorem lawTold_any {W : World} (A : Option Addr) (c : Nat) (ls : List Th) (hlc : ∀ x ∈ ls, x.Came) (hlb : ∀ x ∈ ls, x.s.size ≤ 140737488355328) (hlr : Rd W A (thC ls)) (A' : Option Addr) (c' : Nat) (ms : List Th) (hmc : ∀ x ∈ ms, x.Came) (hmb : ∀ x ∈ ms, x.s.size ≤ 140737488355328) (hmr : Rd W A' (thC ms)) :
    Calls Try.prog 10 #[.slice A ls.length c, .slice A' ms.length c'] W fun e w' => e = .returned (.bool true) ∧ Sat W w' [] := by
  have hld : ∀ x ∈ ls, x.d.length = 32 := fun x hx => (hlc x hx).d
  have hmd : ∀ x ∈ ms, x.d.length = 32 := fun x hx => (hmc x hx).d
  obtain ⟨i0, hi, hz0, hz1, hz2⟩ := info_parts infoT
  obtain ⟨iU, hiU, hu0, hu1, hu2⟩ := info_parts infoU8
  go_enter Try.func10, Try.ntmps10
  go_wp2_with fail
  refine (known_any (Sat.start W)).mono ?_
  rintro e w1 ⟨rfl, H1⟩
  go_wp2_with fail
  refine (bulky_any A c ls hld hlb (hlr.old H1)).mono ?_
  rintro e _ ⟨rfl, rfl⟩
  cases hB1 : bulkyB ls with
  | true =>
    go_wp2
    go_ret
    exact ⟨rfl, H1⟩
  | false =>
    go_wp2_with fail
    refine (bulky_any A' c' ms hmd hmb (hmr.old H1)).mono ?_
    rintro e _ ⟨rfl, rfl⟩
    cases hB2 : bulkyB ms with
    | true =>
      go_wp2
      go_ret
      exact ⟨rfl, H1⟩
    | false =>
      obtain ⟨hl1, hl2, hl3⟩ := small_of hlc hB1
      obtain ⟨hm1, hm2, hm3⟩ := small_of hmc hB2
      clear hB1 hB2
      have hbo : ∀ x ∈ ls ++ ms, x.Ok := fun x hx => (List.mem_append.1 hx).elim (hl3 x) (hm3 x)
      have hbw : wts (ls ++ ms) ≤ 200000 := by rw [wts_append']; omega
      have hbl : (ls ++ ms).length ≤ 60 := by rw [List.length_append]; omega
      go_wp2_with fail
      refine (all_any A c ls hl3 (by omega) (by omega) (RdL.old hlr) H1).mono ?_
      rintro e w2 h2
      unfold AllPost at h2
      obtain ⟨sA, pA, L2, rfl, H2, hA⟩ : ∃ (sA : Value) (pA : Bool) (L2 : List SL), e = .returned (.tuple #[sA, .bool pA]) ∧ Sat W w2 L2 ∧ pA = !badAll ls ∧ (badAll ls = false → ∃ A2 c2, sA = .slice A2 (putAll ls).length c2 ∧ L2 = [row 5 zB (.slice A2 (putAll ls).length c2) (putAll ls).length ((putAll ls).map B)]) := by
        cases hb : badAll ls with
        | true => rw [hb, if_pos rfl] at h2; exact ⟨_, _, _, h2.1, h2.2, rfl, nofun⟩
        | false => rw [hb, if_neg (by decide)] at h2; obtain ⟨A2, c2, he, hs⟩ := h2; exact ⟨_, _, _, he, hs, rfl, fun _ => ⟨A2, c2, rfl, rfl⟩⟩
      obtain ⟨hpA, hA⟩ := hA
      have HpA := Lib.hid hpA
      have HA := Lib.hid hA
      clear hpA hA
      go_wp2_with fail
      refine (all_any A' c' ms hm3 (by omega) (by omega) (RdL.old hmr) H2).mono ?_
      rintro e w3 h3
      unfold AllPost at h3
      obtain ⟨sB, pB, L3, rfl, H3, hpB, hB⟩ : ∃ (sB : Value) (pB : Bool) (L3 : List SL), e = .returned (.tuple #[sB, .bool pB]) ∧ Sat W w3 (L3 ++ L2) ∧ pB = !badAll ms ∧ (badAll ms = false → ∃ A3 c3, sB = .slice A3 (putAll ms).length c3 ∧ L3 = [row 5 zB (.slice A3 (putAll ms).length c3) (putAll ms).length ((putAll ms).map B)]) := by
        cases hb : badAll ms with
        | true => rw [hb, if_pos rfl] at h3; exact ⟨_, _, [], h3.1, h3.2, rfl, nofun⟩
        | false => rw [hb, if_neg (by decide)] at h3; obtain ⟨A3, c3, he, hs⟩ := h3; exact ⟨_, _, [_], he, hs, rfl, fun _ => ⟨A3, c3, rfl, rfl⟩⟩
      have HpB := Lib.hid hpB
      have HB := Lib.hid hB
      clear hpB hB h2 h3
      have H4 : Sat W (w3.alloc (.cells #[] 35)) (row 35 zT (.slice (some ⟨w3.heap.size, 0, none⟩) 0 0) 0 [] :: (L3 ++ L2)) := H3.made #[] 35 zT 0 0 (Nat.le_refl _) (by simp [maxLen]) rfl (Typed.nil zT)
      have hl35 : Hid ((thC ls).length = ls.length * zT.length) := by show _ = _; rw [thC_len ls hl3]; rfl
      have hm35 : Hid ((thC ms).length = ms.length * zT.length) := by show _ = _; rw [thC_len ms hm3]; rfl
      go_wp2_with (first
        | (refine wpList_append_sl rfl (.tmp 35) (.tmp 36) 22 rfl 35 i0 (.agg zT.toArray) zT 64 Try.underlying22 hi hz0 rfl hz1 hz2 (by decide) zT_like (.slice (some ⟨w3.heap.size, 0, none⟩) 0 0) 0 [] rfl H4 A ls.length c (thC ls) rfl hl35.out (hlr.old H4) (one_things ls) (typed_things ls hld) (by unfold maxLen; omega) (by omega) ?_
           intro A5 c5 w5 H5)
        | (refine wpList_append_sl rfl (.tmp 37) (.tmp 38) 22 rfl 35 i0 (.agg zT.toArray) zT 64 Try.underlying22 hi hz0 rfl hz1 hz2 (by decide) zT_like (.slice A5 (0 + ls.length) c5) (0 + ls.length) ([] ++ thC ls) (by first | rfl | (simp [Act.eval]; done)) H5 A' ms.length c' (thC ms) rfl hm35.out (hmr.old H5) (one_things ms) (typed_things ms hmd) (by unfold maxLen; omega) (by omega) ?_
           intro A6 c6 w6 H6))
      have hnl : (ls ++ ms).length = ls.length + ms.length := List.length_append
      have H7 : Sat W w6 (row 35 zT (.slice A6 (ls ++ ms).length c6) (ls ++ ms).length (thC (ls ++ ms)) :: (L3 ++ L2)) := by
        have h := H6
        rw [List.nil_append, ← thC_append, Nat.zero_add, ← hnl] at h
        exact h
      have hall := all_any A6 c6 (ls ++ ms) hbo (by omega) (by omega) RdL.row H7
      rw [hnl] at hall H7
      have HALL := Lib.hid hall
      have HNL := Lib.hid hnl
      clear hall hnl H4 H5 H6 hl35 hm35
      refine HALL.out.mono ?_
      rintro e w7 h7
      unfold AllPost at h7
      rw [badAll_append, putAll_append] at h7
      cases hbl : badAll ls with
      | true =>
        rw [hbl, Bool.true_or, if_pos rfl] at h7
        obtain ⟨rfl, H8⟩ := h7
        obtain rfl : pA = false := by rw [HpA.out, hbl]; rfl
        clear hbl
        go_wp2
        go_ret
        exact ⟨rfl, (H8.takes 0)⟩
      | false =>
        obtain rfl : pA = true := by rw [HpA.out, hbl]; rfl
        obtain ⟨A2, c2, rfl, rfl⟩ := HA.out hbl
        rw [hbl, Bool.false_or] at h7
        cases hbm : badAll ms with
        | true =>
          rw [hbm, if_pos rfl] at h7
          obtain ⟨rfl, H8⟩ := h7
          obtain rfl : pB = false := by rw [HpB.out, hbm]; rfl
          clear hbl hbm
          go_wp2
          go_ret
          exact ⟨rfl, (H8.takes 0)⟩
        | false =>
          obtain rfl : pB = true := by rw [HpB.out, hbm]; rfl
          obtain ⟨A3, c3, rfl, rfl⟩ := HB.out hbm
          rw [hbm, if_neg (by decide)] at h7
          obtain ⟨A7, c7, rfl, H8⟩ := h7
          have hbb : badAll (ls ++ ms) = false := by rw [badAll_append, hbl, hbm]; rfl
          have hla := Nat.le_trans (putAll_len ls hl3) hl2
          have hlb := Nat.le_trans (putAll_len ms hm3) hm2
          clear hbl hbm HA HB HpA HpB HALL
          have HBB := Lib.hid hbb
          clear hbb
          have hop := open_any A7 c7 (putAll ls ++ putAll ms) RdL.row (by rw [List.length_append]; omega) H8
          rw [List.length_append] at hop
          have HO := Lib.hid hop
          clear hop
          go_wp2_with fail
          refine HO.out.mono ?_
          rintro e w8 ⟨r, rfl, H10⟩
          clear HO
          have hx2 : Rd w8 A2 ((putAll ls).map B) := (H10.pull 4).rd
          go_wp2_with fail
          refine (copy_any A2 c2 (putAll ls) hx2 (by omega) H10).mono ?_
          rintro e w9 ⟨A9, c9, rfl, H11⟩
          have hx3 : Rd w9 A3 ((putAll ms).map B) := (H11.pull 4).rd
          go_wp2_with (refine wpList_append_slw (by rfl) (.tmp 65) (.tmp 66) 28 rfl 5 iU (.int .u8 0) zB 1 Try.underlying28 hiU hu0 rfl hu1 hu2 (by decide) zB_like (.slice A9 (putAll ls).length c9) (putAll ls).length ((putAll ls).map B) rfl H11 A3 (putAll ms).length c3 ((putAll ms).map B) rfl (by simp) hx3 (B_one _) (Typed.bytes _) (by unfold maxLen; omega) (by omega) ?_
                       intro A10 c10 w10 H12)
          have hs1 : Rd w10 A10 ((putAll ls ++ putAll ms).map B) := by rw [List.map_append]; exact H12.rd
          have hs2 : Rd w10 A7 ((putAll ls ++ putAll ms).map B) := (H12.pull 2).rd
          have hsame := same_any A10 A7 c10 c7 (putAll ls ++ putAll ms) (putAll ls ++ putAll ms) w10 hs1 hs2
          rw [List.length_append, show (putAll ls ++ putAll ms == putAll ls ++ putAll ms) = true by simp] at hsame
          have HS := Lib.hid hsame
          clear hsame hs1 hs2 hx2 hx3
          refine HS.out.mono ?_
          rintro e _ ⟨rfl, rfl⟩
          have H13 : Sat W w10 [rdr r (putAll (ls ++ ms)) 0 0 0, row 35 zT (.slice A6 (ls.length + ms.length) c6) (ls.length + ms.length) (thC (ls ++ ms))] := by
            rw [putAll_append]
            exact ((H12.pull 3).pull 2).takes 2
          go_wp2_with fail
          have HM : Hid ((putAll (ls ++ ms)).length = (putAll ls).length + (putAll ms).length) := by show _ = _; rw [putAll_append, List.length_append]
          have hM : (putAll (ls ++ ms)).length ≤ 200000 := Nat.le_trans (putAll_len _ hbo) hbw
          clear H8 H10 H11 H12 HS H7 hl3 hm3 hlc hmc hmb hla hlb hld hmd hlr hmr
          generalize (putAll ls).length + (putAll ms).length = M at HM ⊢
          generalize ls ++ ms = ts at HM hM H13 hbo hbw hbl HBB HNL
          generalize ls.length + ms.length = N at HNL H13 ⊢
          go_loopw [14, 15] (fun sz i wc => ∃ (j : Nat), j ≤ N ∧ i = .int .i64 j ∧ sz = .int .i64 (putAll (ts.take j)).length ∧ Sat W wc [rdr r (putAll ts) (putAll (ts.take j)).length 0 0, row 35 zT (.slice A6 N c6) N (thC ts)]) (fun _ i _ => N - (intOf i).toNat)
          case atStart => exact ⟨0, by omega, rfl, rfl, H13⟩
          case round =>
            obtain ⟨j, hj, rfl, rfl, H14⟩ := hrel
            clear H13
            have hpj : (putAll (ts.take j)).length ≤ (putAll ts).length := by
              have h := congrArg List.length (putAll_append (ts.take j) (ts.drop j))
              rw [List.take_append_drop, List.length_append] at h
              omega
            have hN60 : N ≤ 60 := by rw [← HNL.out]; exact hbl
            by_cases hlt : j < N
            · obtain ⟨x, hx⟩ : ∃ x, ts[j]? = some x := ⟨_, List.getElem?_eq_getElem (by rw [HNL.out]; exact hlt)⟩
              have hxo := hbo x (List.mem_of_getElem? hx)
              have hxb := bad_of_all ts HBB.out x (List.mem_of_getElem? hx)
              obtain ⟨rest, hrest, hnext⟩ := putAll_at ts j x hx
              obtain ⟨b, o, hA⟩ := th_open H14.swap.rd j x hx
              subst hA
              have hrx := th_at H14.swap.rd (fun y hy => (hbo y hy).d) j x hx
              generalize putAll (ts.take j) = pre at *
              obtain ⟨xk, xn, xs, xd⟩ := x
              have hkk : xk = 0 ∨ xk = 1 ∨ xk = 2 ∨ (¬ xk = 0 ∧ ¬ xk = 1 ∧ ¬ xk = 2) := by omega
              rcases hkk with rfl | rfl | rfl | ⟨g0, g1, g2⟩
              · have hn0 : ¬ xn < 0 := by
                  intro h
                  simp [Th.bad, h] at hxb
                obtain ⟨m, rfl⟩ : ∃ m : Nat, xn = m := ⟨xn.toNat, by omega⟩
                have hm63 : m < 9223372036854775808 := by have := hxo.n; dsimp only at this; omega
                have eb : Th.bytes ⟨0, (m : Int), xs, xd⟩ = sev m := by simp [Th.bytes, hn0]
                rw [eb] at hrest hnext
                have hI : toldInt (putAll ts) pre.length 0 0 m m 5 = ⟨m, pre.length + (sev m).length, 0, 0⟩ := by rw [hrest]; exact toldInt_here pre rest m hm63 m m 5 (Int.le_refl _) (Int.le_refl _)
                have HI := Lib.hid hI
                clear hI eb
                have hsl := sev_len m
                have HL : Hid ((Try.prog.info? 35).map (·.size) = some (Th.mk 0 (m : Int) xs xd).cs.length) := th_size (Th.mk 0 (m : Int) xs xd) hxo.d
                have HC : Hid (zT.toArray.size = (Th.mk 0 (m : Int) xs xd).cs.length) := by show _ = _; rw [(Th.mk 0 (m : Int) xs xd).cs_len hxo]; rfl
                have HR := Lib.hid hrest
                have HX := Lib.hid hnext
                have HXB := Lib.hid hxb
                clear hrest hnext hxb
                have H15 : Sat W (wr.alloc (.cells zT.toArray 35)) (pt wr.heap.size zT.toArray 35 :: _) := H14.alloc _ _
                go_wp2_with (first
                  | refine wpList_load_rd rfl (.tmp 80) 35 rfl b (o + j * 35) (Th.mk 0 (m : Int) xs xd).cs (by rw [Try.underlying35]) HL.out (by simp [Act.eval]) hrx ?_
                  | (refine wpList_store_pt rfl rfl (.tmp 16) (.tmp 81) 35 rfl wr.heap.size zT.toArray 35 (Th.mk 0 (m : Int) xs xd).cs HL.out rfl rfl HC.out (th_one _) H15 ?_
                     intro w16 H16
                     have hc0 : w16.cell? ⟨wr.heap.size, 0, none⟩ = some (.int .i64 0) := H16.cell 0
                     have hc1 : w16.cell? ⟨wr.heap.size, 1, none⟩ = some (.int .i64 (m : Int)) := H16.cell 1
                     have hc2 : w16.cell? ⟨wr.heap.size, 2, none⟩ = some (.string xs) := H16.cell 2))
                refine (size_any m hm63 _).mono ?_
                rintro e _ ⟨rfl, rfl⟩
                go_wp2_with fail
                have hrd := rInt_any r (putAll ts) pre.length 0 0 m m hpj (by omega) (fun _ => rfl) H16.swap.drew
                rw [HI.out] at hrd
                have HRD := Lib.hid hrd
                clear hrd
                go_region_held3 (fun w' => w'.cell? ⟨wr.heap.size, 1, none⟩ = some (.int .i64 m)) (assumption) (first
                  | (go_at_call 32; refine HRD.out.mono ?_
                     rintro e w17 ⟨rfl, H17⟩
                     have hd1 : w17.cell? ⟨wr.heap.size, 1, none⟩ = some (.int .i64 m) := H17.swap.cell 1))
                go_wp2_with fail
                refine (rAt_any r (putAll ts) (pre.length + (sev m).length) 0 0 H17).mono ?_
                rintro e _ ⟨rfl, rfl⟩
                go_wp2
                refine ⟨⟨j + 1, by omega, by go_num, ?_, ?_⟩, by simp [intOf]; omega⟩
                · rw [HX.out, List.length_append]; go_num
                · rw [HX.out, List.length_append]
                  exact H17.swap.tail
              · have hs9 : xs.size ≤ 1000000000 := hxo.s
                obtain ⟨L, rfl⟩ : ∃ L : List UInt8, xs = ⟨L.toArray⟩ := ⟨xs.data.toList, rfl⟩
                have hsz : (ByteArray.mk L.toArray).size = L.length := by simp [ByteArray.size]
                rw [hsz] at hs9
                have eb : Th.bytes ⟨1, xn, ⟨L.toArray⟩, xd⟩ = sev L.length ++ L := by simp [Th.bytes, hsz]
                rw [eb, List.append_assoc] at hrest
                rw [eb] at hnext
                have hI : toldTxt (putAll ts) pre.length 0 0 L.length = ⟨L, pre.length + ((sev L.length).length + L.length), 0, 0⟩ := by rw [hrest]; exact toldTxt_here pre rest L (by omega) L.length (Int.le_refl _)
                have hLb : L.length ≤ 200000 := by
                  have h := congrArg List.length hrest
                  simp only [List.length_append] at h
                  omega
                have HI := Lib.hid hI
                have HSZ := Lib.hid hsz
                clear hI eb hsz
                have hsl := sev_len L.length
                have HL : Hid ((Try.prog.info? 35).map (·.size) = some (Th.mk 1 xn ⟨L.toArray⟩ xd).cs.length) := th_size (Th.mk 1 xn ⟨L.toArray⟩ xd) hxo.d
                have HC : Hid (zT.toArray.size = (Th.mk 1 xn ⟨L.toArray⟩ xd).cs.length) := by show _ = _; rw [(Th.mk 1 xn ⟨L.toArray⟩ xd).cs_len hxo]; rfl
                have HR := Lib.hid hrest
                have HX := Lib.hid hnext
                have HXB := Lib.hid hxb
                clear hrest hnext hxb
                have H15 : Sat W (wr.alloc (.cells zT.toArray 35)) (pt wr.heap.size zT.toArray 35 :: _) := H14.alloc _ _
                go_wp2_with (first
                  | refine wpList_load_rd rfl (.tmp 80) 35 rfl b (o + j * 35) (Th.mk 1 xn ⟨L.toArray⟩ xd).cs (by rw [Try.underlying35]) HL.out (by simp [Act.eval]) hrx ?_
                  | (refine wpList_store_pt rfl rfl (.tmp 16) (.tmp 81) 35 rfl wr.heap.size zT.toArray 35 (Th.mk 1 xn ⟨L.toArray⟩ xd).cs HL.out rfl rfl HC.out (th_one _) H15 ?_
                     intro w16 H16
                     have hc0 : w16.cell? ⟨wr.heap.size, 0, none⟩ = some (.int .i64 1) := H16.cell 0
                     have hc1 : w16.cell? ⟨wr.heap.size, 1, none⟩ = some (.int .i64 xn) := H16.cell 1
                     have hc2 : w16.cell? ⟨wr.heap.size, 2, none⟩ = some (.string ⟨L.toArray⟩) := H16.cell 2))
                have hs1 : IntKind.i64.wrap ((pre.length : Int) + ((sev L.length).length : Int)) = (pre.length : Int) + ((sev L.length).length : Int) := IntWalk.i64_in _ (by omega)
                have hs2 : IntKind.i64.wrap ((pre.length : Int) + ((sev L.length).length : Int) + (L.length : Int)) = (pre.length : Int) + ((sev L.length).length : Int) + (L.length : Int) := IntWalk.i64_in _ (by omega)
                have hL63 : L.length < 9223372036854775808 := by omega
                go_region_held3 (fun w' => w'.cell? ⟨wr.heap.size, 2, none⟩ = some (.string ⟨L.toArray⟩)) (assumption) (first
                  | (go_at_call 19; refine (size_any L.length hL63 _).mono ?_; rintro e _ ⟨rfl, rfl⟩))
                clear hs1 hs2
                go_wp2_with fail
                have hrd := rText_any r (putAll ts) pre.length 0 0 L.length hpj (by omega) (fun _ => rfl) H16.swap.drew.drew
                rw [HI.out] at hrd
                have HRD := Lib.hid hrd
                clear hrd
                have hd2 : w16.drew.cell? ⟨wr.heap.size, 2, none⟩ = some (.string ⟨L.toArray⟩) := hc2
                go_region_held3 (fun w' => w'.cell? ⟨wr.heap.size, 2, none⟩ = some (.string ⟨L.toArray⟩)) (assumption) (first
                  | (go_at_call 35; refine HRD.out.mono ?_
                     rintro e w17 ⟨rfl, H17⟩
                     have hd1 : w17.cell? ⟨wr.heap.size, 2, none⟩ = some (.string ⟨L.toArray⟩) := H17.swap.cell 2))
                go_wp2_with fail
                refine (rAt_any r (putAll ts) (pre.length + ((sev L.length).length + L.length)) 0 0 H17).mono ?_
                rintro e _ ⟨rfl, rfl⟩
                go_wp2
                refine ⟨⟨j + 1, by omega, by go_num, ?_, ?_⟩, by simp [intOf]; omega⟩
                · rw [HX.out, List.length_append, List.length_append]; go_num
                · rw [HX.out, List.length_append]
                  rw [List.length_append]
                  exact H17.swap.tail
              · have hd32 : xd.length = 32 := hxo.d
                have eb : Th.bytes ⟨2, xn, xs, xd⟩ = xd := by simp [Th.bytes]
                rw [eb] at hrest hnext
                have hI : toldID (putAll ts) pre.length 0 0 = ⟨xd, pre.length + 32, 0, 0⟩ := by rw [hrest]; exact toldID_here pre rest xd hd32
                have HI := Lib.hid hI
                clear hI eb
                have HL : Hid ((Try.prog.info? 35).map (·.size) = some (Th.mk 2 xn xs xd).cs.length) := th_size (Th.mk 2 xn xs xd) hxo.d
                have HC : Hid (zT.toArray.size = (Th.mk 2 xn xs xd).cs.length) := by show _ = _; rw [(Th.mk 2 xn xs xd).cs_len hxo]; rfl
                have HR := Lib.hid hrest
                have HX := Lib.hid hnext
                have HXB := Lib.hid hxb
                clear hrest hnext hxb
                have H15 : Sat W (wr.alloc (.cells zT.toArray 35)) (pt wr.heap.size zT.toArray 35 :: _) := H14.alloc _ _
                go_wp2_with (first
                  | refine wpList_load_rd rfl (.tmp 80) 35 rfl b (o + j * 35) (Th.mk 2 xn xs xd).cs (by rw [Try.underlying35]) HL.out (by simp [Act.eval]) hrx ?_
                  | (refine wpList_store_pt rfl rfl (.tmp 16) (.tmp 81) 35 rfl wr.heap.size zT.toArray 35 (Th.mk 2 xn xs xd).cs HL.out rfl rfl HC.out (th_one _) H15 ?_
                     intro w16 H16
                     have hc0 : w16.cell? ⟨wr.heap.size, 0, none⟩ = some (.int .i64 2) := H16.cell 0
                     have hc1 : w16.cell? ⟨wr.heap.size, 1, none⟩ = some (.int .i64 xn) := H16.cell 1
                     have hc2 : w16.cell? ⟨wr.heap.size, 2, none⟩ = some (.string xs) := H16.cell 2))
                have hrd := rID_any r (putAll ts) pre.length 0 0 hpj (by omega) (fun _ => rfl) H16.swap.drew
                rw [HI.out] at hrd
                unfold idv at hrd
                have HRD := Lib.hid hrd
                clear hrd
                have h32 : (Try.prog.info? 33).map (·.size) = some (xd.map B).length := by rw [List.length_map, hd32]; kernel_rfl
                have hu32 := Try.underlying33
                have HcU : Hid (Try.prog.cellsOf 5 = 1) := by show _ = _; kernel_rfl
                have hEq : ∀ w', (Op.equalIn 10000 33 (.agg (List.map B xd).toArray) (.agg (List.map B xd).toArray)).run Try.prog w' = .ok true w' := fun w' => by
                  have h := run_equal_bytes (P := Try.prog) (w := w') 9998 33 5 32 iU Try.underlying33 hiU HcU.out Try.underlying5 xd xd hd32 hd32
                  rwa [show (xd == xd) = true by simp] at h
                have hr3 : w16.rangeAt wr.heap.size 3 (List.map B xd) := fun k v hk => by
                  have h := Rd.at (Rd.drop (o := 0) (RdL.pt _ H16) 3) k hk
                  simpa using h
                go_region_held3 (fun w' => w'.rangeAt wr.heap.size 3 (List.map B xd)) (assumption) (first
                  | (go_at_call 45; refine HRD.out.mono ?_
                     rintro e w17 ⟨rfl, H17⟩
                     have hr4 : w17.rangeAt wr.heap.size 3 (List.map B xd) := fun k v hk => by
                       have h := Rd.at (Rd.drop (o := 0) (RdL.pt _ H17.swap) 3) k hk
                       simpa using h))
                go_wp2_with fail
                refine (rAt_any r (putAll ts) (pre.length + 32) 0 0 H17).mono ?_
                rintro e _ ⟨rfl, rfl⟩
                go_wp2
                refine ⟨⟨j + 1, by omega, by go_num, ?_, ?_⟩, by simp [intOf]; omega⟩
                · rw [HX.out, List.length_append, hd32]; go_num
                · rw [HX.out, List.length_append, hd32]
                  exact H17.swap.tail
              · have i0 : (xk == 0) = false := by simpa using g0
                have i1 : (xk == 1) = false := by simpa using g1
                have i2 : (xk == 2) = false := by simpa using g2
                have eb : Th.bytes ⟨xk, xn, xs, xd⟩ = [] := by simp [Th.bytes, g0, g1, g2]
                rw [eb, List.append_nil] at hnext
                clear eb
                have HL : Hid ((Try.prog.info? 35).map (·.size) = some (Th.mk xk xn xs xd).cs.length) := th_size (Th.mk xk xn xs xd) hxo.d
                have HC : Hid (zT.toArray.size = (Th.mk xk xn xs xd).cs.length) := by show _ = _; rw [(Th.mk xk xn xs xd).cs_len hxo]; rfl
                have HR := Lib.hid hrest
                have HX := Lib.hid hnext
                have HXB := Lib.hid hxb
                clear hrest hnext hxb
                have H15 : Sat W (wr.alloc (.cells zT.toArray 35)) (pt wr.heap.size zT.toArray 35 :: _) := H14.alloc _ _
                go_wp2_with (first
                  | refine wpList_load_rd rfl (.tmp 80) 35 rfl b (o + j * 35) (Th.mk xk xn xs xd).cs (by rw [Try.underlying35]) HL.out (by simp [Act.eval]) hrx ?_
                  | (refine wpList_store_pt rfl rfl (.tmp 16) (.tmp 81) 35 rfl wr.heap.size zT.toArray 35 (Th.mk xk xn xs xd).cs HL.out rfl rfl HC.out (th_one _) H15 ?_
                     intro w16 H16
                     have hc0 : w16.cell? ⟨wr.heap.size, 0, none⟩ = some (.int .i64 xk) := H16.cell 0
                     have hc1 : w16.cell? ⟨wr.heap.size, 1, none⟩ = some (.int .i64 xn) := H16.cell 1
                     have hc2 : w16.cell? ⟨wr.heap.size, 2, none⟩ = some (.string xs) := H16.cell 2))
                refine (rAt_any r (putAll ts) pre.length 0 0 H16.swap).mono ?_
                rintro e _ ⟨rfl, rfl⟩
                go_wp2
                refine ⟨⟨j + 1, by omega, by go_num, by rw [HX.out], ?_⟩, by simp [intOf]; omega⟩
                rw [HX.out]
                exact H16.tail
            · obtain rfl : j = N := by omega
              have e : ts.take j = ts := List.take_of_length_le (by rw [HNL.out]; exact Nat.le_refl _)
              rw [e, HM.out] at H14 ⊢
              have hMM : M ≤ (putAll ts).length := by rw [HM.out]; exact Nat.le_refl _
              have hMM' : (putAll ts).length ≤ M := by rw [HM.out]; exact Nat.le_refl _
              have hend := rEnd_any r (putAll ts) M 0 0 hMM (by omega) H14
              rw [show endF (putAll ts) M 0 0 = (0, 0) by simp [endF]; omega] at hend
              have HE := Lib.hid hend
              clear e hend
              go_wp2_with fail
              refine HE.out.mono ?_
              rintro e w17 ⟨rfl, H17⟩
              go_wp2
              go_ret
              exact ⟨rfl, H17.takes 0⟩
end Go.Proofs.Ytkfeejlpgcmilaa
