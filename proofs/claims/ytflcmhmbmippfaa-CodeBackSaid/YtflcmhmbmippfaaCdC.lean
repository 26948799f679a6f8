/- Package code's Check: may an instruction be? -/
import Derived.Test.YtflcmhmbmippfaaCdA
import Derived.Test.YtflcmhmbmippfaaCdB
namespace Go.Proofs.Ytflcmhmbmippfaa
open Go.RowKit Go.Rt

theorem lt128_num (c : UInt8) (h : c = 115 ∨ NumL c) : c.toNat < 128 := by
  rcases h with rfl | rfl | rfl | rfl | rfl <;> decide
theorem hasL_short (op : Int) : (hasL op).length ≤ 4 := by
  by_cases h1 : 1 ≤ op ∧ op ≤ 15
  · rcases op_cases op h1 with rfl | rfl | rfl | rfl | rfl | rfl | rfl | rfl | rfl | rfl | rfl | rfl | rfl | rfl | rfl <;> decide
  · rw [hasL_out op (by omega)]; decide
theorem ba_at (ls : List UInt8) (j : Nat) (c : UInt8) (h : ls[j]? = some c) (hj : j < (ByteArray.mk ls.toArray).size) : (ByteArray.mk ls.toArray)[j].toNat = c.toNat := by
  have : (ByteArray.mk ls.toArray)[j] = ls[j]'(by simpa [ByteArray.size] using hj) := by
    show ls.toArray[j] = _
    simp
  rw [this]
  obtain ⟨h1, h2⟩ := List.getElem?_eq_some_iff.1 h
  rw [h2]
theorem ba_size (ls : List UInt8) : (ByteArray.mk ls.toArray).size = ls.length := by simp [ByteArray.size]

set_option maxRecDepth 100000 in
set_option maxHeartbeats 8000000 in
theorem cCheck_any {W w : World} {l : List SL} (i : Ins) (hs : i.s.length ≤ maxLen) (H : Sat W w l) :
    Calls Try.prog 19 #[.agg i.cs.toArray] w fun e w' => e = .returned (.int .i64 (if mayB i then 0 else 2)) ∧ Sat W w' l := by
  obtain ⟨op, ia, ib, ic, im, is⟩ := i
  unfold maxLen at hs
  dsimp only at hs
  obtain ⟨R, HR⟩ : ∃ R, Hid (mayB ⟨op, ia, ib, ic, im, is⟩ = R) := ⟨_, rfl⟩
  rw [HR.out]
  by_cases hop : 1 ≤ op ∧ op ≤ 15
  · have hR : R = chkF op (hasL op) ⟨0, ia, ib, ic, im, is⟩ := by
      rw [← HR.out, mayB, decide_eq_true hop, Bool.true_and]
    have HRR := Lib.hid hR
    clear hR HR
    have hnum := hasL_num op
    have hnd := hasL_nodup op
    have hsh := hasL_short op
    obtain ⟨ho1, ho2⟩ := hop
    have HH := Lib.hid (fun w0 (h : Sat W w0 _) => cHas_any (W := W) (w := w0) (l := pt (w.heap.size + 1) (Ins.cs ⟨0, ia, ib, ic, im, is⟩).toArray 26 :: pt w.heap.size (Ins.cs ⟨op, ia, ib, ic, im, is⟩).toArray 26 :: l) op h)
    generalize hasL op = ls at *
    have H1 : Sat W ((w.alloc (.cells (Ins.cs ⟨op, ia, ib, ic, im, is⟩).toArray 26)).alloc (.cells (Ins.cs ⟨op, ia, ib, ic, im, is⟩).toArray 26)) (pt (w.heap.size + 1) (Ins.cs ⟨op, ia, ib, ic, im, is⟩).toArray 26 :: pt w.heap.size (Ins.cs ⟨op, ia, ib, ic, im, is⟩).toArray 26 :: l) := by
      have h := (H.alloc (Ins.cs ⟨op, ia, ib, ic, im, is⟩).toArray 26).alloc (Ins.cs ⟨op, ia, ib, ic, im, is⟩).toArray 26
      simp only [World.size_alloc] at h
      exact h
    have H2 := H1.setCell 0 (.int .i64 0)
    have H2' : Sat W ((w.alloc (.cells (Ins.cs ⟨op, ia, ib, ic, im, is⟩).toArray 26)).alloc (.cells (Ins.cs ⟨0, ia, ib, ic, im, is⟩).toArray 26)) (pt (w.heap.size + 1) (Ins.cs ⟨0, ia, ib, ic, im, is⟩).toArray 26 :: pt w.heap.size (Ins.cs ⟨op, ia, ib, ic, im, is⟩).toArray 26 :: l) := by
      have h := (H.alloc (Ins.cs ⟨op, ia, ib, ic, im, is⟩).toArray 26).alloc (Ins.cs ⟨0, ia, ib, ic, im, is⟩).toArray 26
      simp only [World.size_alloc] at h
      exact h
    show Calls Try.prog 19 #[.agg #[.int .i64 op, .int .i64 ia, .int .i64 ib, .int .i64 ic, .int .i64 im, .string ⟨is.toArray⟩]] w _
    go_enter Try.func19, Try.ntmps19
    go_wp2_with fail
    refine (HH.out _ (by first | exact H2 | exact H2')).mono ?_
    rintro e w1 ⟨rfl, H3⟩
    clear HH H1 H2 H2'
    generalize w.heap.size + 1 = rb at H3 ⊢
    generalize w.heap.size = ib' at H3 ⊢
    have H4 := H3.iter ⟨ls.toArray⟩
    go_wp2
    generalize w1.heap.size = k at H4 ⊢
    clear H3
    go_loopg [5] ls.length (fun g _ wc => ∃ (j : Nat) (r : Ins), g = ls.length - j ∧ j ≤ ls.length ∧ Hid (R = chkF op (ls.drop j) r) ∧ Hid (115 ∈ ls.drop j → r.s = is) ∧ Sat W wc (itr k ⟨ls.toArray⟩ j :: pt rb r.cs.toArray 26 :: pt ib' (Ins.cs ⟨op, ia, ib, ic, im, is⟩).toArray 26 :: l))
    case atStart => exact ⟨0, ⟨0, ia, ib, ic, im, is⟩, rfl, by omega, HRR, (fun _ => rfl), H4⟩
    case round =>
      obtain ⟨j, ⟨ro, ra, rB, rc, rn, rs⟩, rfl, hj, hC, hS, H5⟩ := hrel
      clear H4 HRR
      by_cases hlt : j < ls.length
      · obtain ⟨c, hcj⟩ : ∃ c, ls[j]? = some c := ⟨_, List.getElem?_eq_getElem hlt⟩
        have hdrop : ls.drop j = c :: ls.drop (j + 1) := by
          obtain ⟨h1, h2⟩ := List.getElem?_eq_some_iff.1 hcj
          rw [List.drop_eq_getElem_cons h1, h2]
        have hnd2 : c ∉ ls.drop (j + 1) := by
          have h := List.Sublist.nodup (List.drop_sublist j ls) hnd
          rw [hdrop] at h
          exact (List.nodup_cons.1 h).1
        have hcn : c = 115 ∨ c = 97 ∨ c = 98 ∨ c = 99 ∨ c = 110 := by
          by_cases h : c = 115
          · exact .inl h
          · exact .inr (hnum c (List.mem_of_getElem? hcj) h)
        have hlt' : j < (ByteArray.mk ls.toArray).size := by rw [ba_size]; exact hlt
        have hat := ba_at ls j c hcj hlt'
        have hC' := hC.out
        have hS' := hS.out
        rw [hdrop] at hC' hS'
        clear hC hS hnum hcj hdrop
        have HND := Lib.hid hnd2
        clear hnd2 hnd
        rcases hcn with rfl | rfl | rfl | rfl | rfl
        · have hrs : rs = is := hS' (by simp)
          by_cases h64 : 64 < is.length
          · obtain rfl : false = R := by rw [hC']; simp [chkF, hrs, h64]
            clear hC' hS' hrs
            have e64 : decide ((64 : Int) < (is.length : Int)) = true := by simp; omega
            go_wp2_with (first
              | (refine wpList_next_more rfl (.tmp 22) rfl k ⟨ls.toArray⟩ j rfl H5 115 hlt' hat (by decide) ?_
                 intro w6 H6
                 have r0 : w6.cell? ⟨rb, 0, none⟩ = some (.int .i64 ro) := (H6.pull 1).cell 0
                 have r1 : w6.cell? ⟨rb, 1, none⟩ = some (.int .i64 ra) := (H6.pull 1).cell 1
                 have r2 : w6.cell? ⟨rb, 2, none⟩ = some (.int .i64 rB) := (H6.pull 1).cell 2
                 have r3 : w6.cell? ⟨rb, 3, none⟩ = some (.int .i64 rc) := (H6.pull 1).cell 3
                 have r4 : w6.cell? ⟨rb, 4, none⟩ = some (.int .i64 rn) := (H6.pull 1).cell 4
                 have r5 : w6.cell? ⟨rb, 5, none⟩ = some (.string ⟨rs.toArray⟩) := (H6.pull 1).cell 5
                 have f5 := (H6.pull 1).frz 5
                 have i0 : w6.cell? ⟨ib', 0, none⟩ = some (.int .i64 op) := (H6.pull 2).cell 0
                 have i5 : w6.cell? ⟨ib', 5, none⟩ = some (.string ⟨is.toArray⟩) := (H6.pull 2).cell 5))
            go_ret
            exact ⟨rfl, H6.tail.tail.tail⟩
          · have hR2 : R = chkF op (ls.drop (j + 1)) ⟨ro, ra, rB, rc, rn, []⟩ := by rw [hC']; simp [chkF, hrs, h64]
            clear hC' hS'
            have HR2 := Lib.hid hR2
            clear hR2 hrs
            have e64 : decide ((64 : Int) < (is.length : Int)) = false := by simp; omega
            go_wp2_with (first
              | (refine wpList_next_more rfl (.tmp 22) rfl k ⟨ls.toArray⟩ j rfl H5 115 hlt' hat (by decide) ?_
                 intro w6 H6
                 have r0 : w6.cell? ⟨rb, 0, none⟩ = some (.int .i64 ro) := (H6.pull 1).cell 0
                 have r1 : w6.cell? ⟨rb, 1, none⟩ = some (.int .i64 ra) := (H6.pull 1).cell 1
                 have r2 : w6.cell? ⟨rb, 2, none⟩ = some (.int .i64 rB) := (H6.pull 1).cell 2
                 have r3 : w6.cell? ⟨rb, 3, none⟩ = some (.int .i64 rc) := (H6.pull 1).cell 3
                 have r4 : w6.cell? ⟨rb, 4, none⟩ = some (.int .i64 rn) := (H6.pull 1).cell 4
                 have r5 : w6.cell? ⟨rb, 5, none⟩ = some (.string ⟨rs.toArray⟩) := (H6.pull 1).cell 5
                 have f5 := (H6.pull 1).frz 5
                 have i0 : w6.cell? ⟨ib', 0, none⟩ = some (.int .i64 op) := (H6.pull 2).cell 0
                 have i5 : w6.cell? ⟨ib', 5, none⟩ = some (.string ⟨is.toArray⟩) := (H6.pull 2).cell 5))
            go_roundg (ls.length - (j + 1))
            case measure => omega
            case rel => exact ⟨j + 1, ⟨ro, ra, rB, rc, rn, []⟩, rfl, by omega, HR2, (fun h => absurd h HND.out), ((H6.pull 1).setCell 5 (.string ⟨#[]⟩)).swap⟩
        · by_cases hlo : ra < 0
          · obtain rfl : false = R := by rw [hC']; simp [chkF, Ins.get, lowOf, highOf, hlo]
            clear hC' hS'
            go_wp2_with (first
              | (refine wpList_next_more rfl (.tmp 22) rfl k ⟨ls.toArray⟩ j rfl H5 97 hlt' hat (by decide) ?_
                 intro w6 H6
                 have r0 : w6.cell? ⟨rb, 0, none⟩ = some (.int .i64 ro) := (H6.pull 1).cell 0
                 have r1 : w6.cell? ⟨rb, 1, none⟩ = some (.int .i64 ra) := (H6.pull 1).cell 1
                 have r2 : w6.cell? ⟨rb, 2, none⟩ = some (.int .i64 rB) := (H6.pull 1).cell 2
                 have r3 : w6.cell? ⟨rb, 3, none⟩ = some (.int .i64 rc) := (H6.pull 1).cell 3
                 have r4 : w6.cell? ⟨rb, 4, none⟩ = some (.int .i64 rn) := (H6.pull 1).cell 4
                 have r5 : w6.cell? ⟨rb, 5, none⟩ = some (.string ⟨rs.toArray⟩) := (H6.pull 1).cell 5
                 have f1 := (H6.pull 1).frz 1
                 have i0 : w6.cell? ⟨ib', 0, none⟩ = some (.int .i64 op) := (H6.pull 2).cell 0
                 have i5 : w6.cell? ⟨ib', 5, none⟩ = some (.string ⟨is.toArray⟩) := (H6.pull 2).cell 5)
              | (go_at_call 47; refine (cField_num rb 97 1 (by decide) _).mono ?_; rintro e _ ⟨rfl, rfl⟩))
            go_ret
            exact ⟨rfl, H6.tail.tail.tail⟩
          · by_cases hhi : 7 < ra
            · obtain rfl : false = R := by rw [hC']; simp [chkF, Ins.get, lowOf, highOf, hlo, hhi]
              clear hC' hS'
              go_wp2_with (first
                | (refine wpList_next_more rfl (.tmp 22) rfl k ⟨ls.toArray⟩ j rfl H5 97 hlt' hat (by decide) ?_
                   intro w6 H6
                   have r0 : w6.cell? ⟨rb, 0, none⟩ = some (.int .i64 ro) := (H6.pull 1).cell 0
                   have r1 : w6.cell? ⟨rb, 1, none⟩ = some (.int .i64 ra) := (H6.pull 1).cell 1
                   have r2 : w6.cell? ⟨rb, 2, none⟩ = some (.int .i64 rB) := (H6.pull 1).cell 2
                   have r3 : w6.cell? ⟨rb, 3, none⟩ = some (.int .i64 rc) := (H6.pull 1).cell 3
                   have r4 : w6.cell? ⟨rb, 4, none⟩ = some (.int .i64 rn) := (H6.pull 1).cell 4
                   have r5 : w6.cell? ⟨rb, 5, none⟩ = some (.string ⟨rs.toArray⟩) := (H6.pull 1).cell 5
                   have f1 := (H6.pull 1).frz 1
                   have i0 : w6.cell? ⟨ib', 0, none⟩ = some (.int .i64 op) := (H6.pull 2).cell 0
                   have i5 : w6.cell? ⟨ib', 5, none⟩ = some (.string ⟨is.toArray⟩) := (H6.pull 2).cell 5)
                | (go_at_call 47; refine (cField_num rb 97 1 (by decide) _).mono ?_; rintro e _ ⟨rfl, rfl⟩))
              go_ret
              exact ⟨rfl, H6.tail.tail.tail⟩
            · have hR2 : R = chkF op (ls.drop (j + 1)) ⟨ro, 0, rB, rc, rn, rs⟩ := by rw [hC']; simp [chkF, Ins.get, Ins.set, lowOf, highOf, hlo, hhi]
              have hS2 : 115 ∈ ls.drop (j + 1) → rs = is := fun h => hS' (by simp [h])
              clear hC' hS'
              have HR2 := Lib.hid hR2
              have HS2 := Lib.hid hS2
              clear hR2 hS2
              go_wp2_with (first
                | (refine wpList_next_more rfl (.tmp 22) rfl k ⟨ls.toArray⟩ j rfl H5 97 hlt' hat (by decide) ?_
                   intro w6 H6
                   have r0 : w6.cell? ⟨rb, 0, none⟩ = some (.int .i64 ro) := (H6.pull 1).cell 0
                   have r1 : w6.cell? ⟨rb, 1, none⟩ = some (.int .i64 ra) := (H6.pull 1).cell 1
                   have r2 : w6.cell? ⟨rb, 2, none⟩ = some (.int .i64 rB) := (H6.pull 1).cell 2
                   have r3 : w6.cell? ⟨rb, 3, none⟩ = some (.int .i64 rc) := (H6.pull 1).cell 3
                   have r4 : w6.cell? ⟨rb, 4, none⟩ = some (.int .i64 rn) := (H6.pull 1).cell 4
                   have r5 : w6.cell? ⟨rb, 5, none⟩ = some (.string ⟨rs.toArray⟩) := (H6.pull 1).cell 5
                   have f1 := (H6.pull 1).frz 1
                   have i0 : w6.cell? ⟨ib', 0, none⟩ = some (.int .i64 op) := (H6.pull 2).cell 0
                   have i5 : w6.cell? ⟨ib', 5, none⟩ = some (.string ⟨is.toArray⟩) := (H6.pull 2).cell 5)
                | (go_at_call 47; refine (cField_num rb 97 1 (by decide) _).mono ?_; rintro e _ ⟨rfl, rfl⟩))
              go_roundg (ls.length - (j + 1))
              case measure => omega
              case rel => exact ⟨j + 1, ⟨ro, 0, rB, rc, rn, rs⟩, rfl, by omega, HR2, HS2, ((H6.pull 1).setCell 1 (.int .i64 0)).swap⟩
        · by_cases hlo : rB < 0
          · obtain rfl : false = R := by rw [hC']; simp [chkF, Ins.get, lowOf, highOf, hlo]
            clear hC' hS'
            go_wp2_with (first
              | (refine wpList_next_more rfl (.tmp 22) rfl k ⟨ls.toArray⟩ j rfl H5 98 hlt' hat (by decide) ?_
                 intro w6 H6
                 have r0 : w6.cell? ⟨rb, 0, none⟩ = some (.int .i64 ro) := (H6.pull 1).cell 0
                 have r1 : w6.cell? ⟨rb, 1, none⟩ = some (.int .i64 ra) := (H6.pull 1).cell 1
                 have r2 : w6.cell? ⟨rb, 2, none⟩ = some (.int .i64 rB) := (H6.pull 1).cell 2
                 have r3 : w6.cell? ⟨rb, 3, none⟩ = some (.int .i64 rc) := (H6.pull 1).cell 3
                 have r4 : w6.cell? ⟨rb, 4, none⟩ = some (.int .i64 rn) := (H6.pull 1).cell 4
                 have r5 : w6.cell? ⟨rb, 5, none⟩ = some (.string ⟨rs.toArray⟩) := (H6.pull 1).cell 5
                 have f2 := (H6.pull 1).frz 2
                 have i0 : w6.cell? ⟨ib', 0, none⟩ = some (.int .i64 op) := (H6.pull 2).cell 0
                 have i5 : w6.cell? ⟨ib', 5, none⟩ = some (.string ⟨is.toArray⟩) := (H6.pull 2).cell 5)
              | (go_at_call 47; refine (cField_num rb 98 2 (by decide) _).mono ?_; rintro e _ ⟨rfl, rfl⟩))
            go_ret
            exact ⟨rfl, H6.tail.tail.tail⟩
          · by_cases hhi : 7 < rB
            · obtain rfl : false = R := by rw [hC']; simp [chkF, Ins.get, lowOf, highOf, hlo, hhi]
              clear hC' hS'
              go_wp2_with (first
                | (refine wpList_next_more rfl (.tmp 22) rfl k ⟨ls.toArray⟩ j rfl H5 98 hlt' hat (by decide) ?_
                   intro w6 H6
                   have r0 : w6.cell? ⟨rb, 0, none⟩ = some (.int .i64 ro) := (H6.pull 1).cell 0
                   have r1 : w6.cell? ⟨rb, 1, none⟩ = some (.int .i64 ra) := (H6.pull 1).cell 1
                   have r2 : w6.cell? ⟨rb, 2, none⟩ = some (.int .i64 rB) := (H6.pull 1).cell 2
                   have r3 : w6.cell? ⟨rb, 3, none⟩ = some (.int .i64 rc) := (H6.pull 1).cell 3
                   have r4 : w6.cell? ⟨rb, 4, none⟩ = some (.int .i64 rn) := (H6.pull 1).cell 4
                   have r5 : w6.cell? ⟨rb, 5, none⟩ = some (.string ⟨rs.toArray⟩) := (H6.pull 1).cell 5
                   have f2 := (H6.pull 1).frz 2
                   have i0 : w6.cell? ⟨ib', 0, none⟩ = some (.int .i64 op) := (H6.pull 2).cell 0
                   have i5 : w6.cell? ⟨ib', 5, none⟩ = some (.string ⟨is.toArray⟩) := (H6.pull 2).cell 5)
                | (go_at_call 47; refine (cField_num rb 98 2 (by decide) _).mono ?_; rintro e _ ⟨rfl, rfl⟩))
              go_ret
              exact ⟨rfl, H6.tail.tail.tail⟩
            · have hR2 : R = chkF op (ls.drop (j + 1)) ⟨ro, ra, 0, rc, rn, rs⟩ := by rw [hC']; simp [chkF, Ins.get, Ins.set, lowOf, highOf, hlo, hhi]
              have hS2 : 115 ∈ ls.drop (j + 1) → rs = is := fun h => hS' (by simp [h])
              clear hC' hS'
              have HR2 := Lib.hid hR2
              have HS2 := Lib.hid hS2
              clear hR2 hS2
              go_wp2_with (first
                | (refine wpList_next_more rfl (.tmp 22) rfl k ⟨ls.toArray⟩ j rfl H5 98 hlt' hat (by decide) ?_
                   intro w6 H6
                   have r0 : w6.cell? ⟨rb, 0, none⟩ = some (.int .i64 ro) := (H6.pull 1).cell 0
                   have r1 : w6.cell? ⟨rb, 1, none⟩ = some (.int .i64 ra) := (H6.pull 1).cell 1
                   have r2 : w6.cell? ⟨rb, 2, none⟩ = some (.int .i64 rB) := (H6.pull 1).cell 2
                   have r3 : w6.cell? ⟨rb, 3, none⟩ = some (.int .i64 rc) := (H6.pull 1).cell 3
                   have r4 : w6.cell? ⟨rb, 4, none⟩ = some (.int .i64 rn) := (H6.pull 1).cell 4
                   have r5 : w6.cell? ⟨rb, 5, none⟩ = some (.string ⟨rs.toArray⟩) := (H6.pull 1).cell 5
                   have f2 := (H6.pull 1).frz 2
                   have i0 : w6.cell? ⟨ib', 0, none⟩ = some (.int .i64 op) := (H6.pull 2).cell 0
                   have i5 : w6.cell? ⟨ib', 5, none⟩ = some (.string ⟨is.toArray⟩) := (H6.pull 2).cell 5)
                | (go_at_call 47; refine (cField_num rb 98 2 (by decide) _).mono ?_; rintro e _ ⟨rfl, rfl⟩))
              go_roundg (ls.length - (j + 1))
              case measure => omega
              case rel => exact ⟨j + 1, ⟨ro, ra, 0, rc, rn, rs⟩, rfl, by omega, HR2, HS2, ((H6.pull 1).setCell 2 (.int .i64 0)).swap⟩
        · by_cases hlo : rc < 0
          · obtain rfl : false = R := by rw [hC']; simp [chkF, Ins.get, lowOf, highOf, hlo]
            clear hC' hS'
            go_wp2_with (first
              | (refine wpList_next_more rfl (.tmp 22) rfl k ⟨ls.toArray⟩ j rfl H5 99 hlt' hat (by decide) ?_
                 intro w6 H6
                 have r0 : w6.cell? ⟨rb, 0, none⟩ = some (.int .i64 ro) := (H6.pull 1).cell 0
                 have r1 : w6.cell? ⟨rb, 1, none⟩ = some (.int .i64 ra) := (H6.pull 1).cell 1
                 have r2 : w6.cell? ⟨rb, 2, none⟩ = some (.int .i64 rB) := (H6.pull 1).cell 2
                 have r3 : w6.cell? ⟨rb, 3, none⟩ = some (.int .i64 rc) := (H6.pull 1).cell 3
                 have r4 : w6.cell? ⟨rb, 4, none⟩ = some (.int .i64 rn) := (H6.pull 1).cell 4
                 have r5 : w6.cell? ⟨rb, 5, none⟩ = some (.string ⟨rs.toArray⟩) := (H6.pull 1).cell 5
                 have f3 := (H6.pull 1).frz 3
                 have i0 : w6.cell? ⟨ib', 0, none⟩ = some (.int .i64 op) := (H6.pull 2).cell 0
                 have i5 : w6.cell? ⟨ib', 5, none⟩ = some (.string ⟨is.toArray⟩) := (H6.pull 2).cell 5)
              | (go_at_call 47; refine (cField_num rb 99 3 (by decide) _).mono ?_; rintro e _ ⟨rfl, rfl⟩))
            go_ret
            exact ⟨rfl, H6.tail.tail.tail⟩
          · by_cases hhi : 7 < rc
            · obtain rfl : false = R := by rw [hC']; simp [chkF, Ins.get, lowOf, highOf, hlo, hhi]
              clear hC' hS'
              go_wp2_with (first
                | (refine wpList_next_more rfl (.tmp 22) rfl k ⟨ls.toArray⟩ j rfl H5 99 hlt' hat (by decide) ?_
                   intro w6 H6
                   have r0 : w6.cell? ⟨rb, 0, none⟩ = some (.int .i64 ro) := (H6.pull 1).cell 0
                   have r1 : w6.cell? ⟨rb, 1, none⟩ = some (.int .i64 ra) := (H6.pull 1).cell 1
                   have r2 : w6.cell? ⟨rb, 2, none⟩ = some (.int .i64 rB) := (H6.pull 1).cell 2
                   have r3 : w6.cell? ⟨rb, 3, none⟩ = some (.int .i64 rc) := (H6.pull 1).cell 3
                   have r4 : w6.cell? ⟨rb, 4, none⟩ = some (.int .i64 rn) := (H6.pull 1).cell 4
                   have r5 : w6.cell? ⟨rb, 5, none⟩ = some (.string ⟨rs.toArray⟩) := (H6.pull 1).cell 5
                   have f3 := (H6.pull 1).frz 3
                   have i0 : w6.cell? ⟨ib', 0, none⟩ = some (.int .i64 op) := (H6.pull 2).cell 0
                   have i5 : w6.cell? ⟨ib', 5, none⟩ = some (.string ⟨is.toArray⟩) := (H6.pull 2).cell 5)
                | (go_at_call 47; refine (cField_num rb 99 3 (by decide) _).mono ?_; rintro e _ ⟨rfl, rfl⟩))
              go_ret
              exact ⟨rfl, H6.tail.tail.tail⟩
            · have hR2 : R = chkF op (ls.drop (j + 1)) ⟨ro, ra, rB, 0, rn, rs⟩ := by rw [hC']; simp [chkF, Ins.get, Ins.set, lowOf, highOf, hlo, hhi]
              have hS2 : 115 ∈ ls.drop (j + 1) → rs = is := fun h => hS' (by simp [h])
              clear hC' hS'
              have HR2 := Lib.hid hR2
              have HS2 := Lib.hid hS2
              clear hR2 hS2
              go_wp2_with (first
                | (refine wpList_next_more rfl (.tmp 22) rfl k ⟨ls.toArray⟩ j rfl H5 99 hlt' hat (by decide) ?_
                   intro w6 H6
                   have r0 : w6.cell? ⟨rb, 0, none⟩ = some (.int .i64 ro) := (H6.pull 1).cell 0
                   have r1 : w6.cell? ⟨rb, 1, none⟩ = some (.int .i64 ra) := (H6.pull 1).cell 1
                   have r2 : w6.cell? ⟨rb, 2, none⟩ = some (.int .i64 rB) := (H6.pull 1).cell 2
                   have r3 : w6.cell? ⟨rb, 3, none⟩ = some (.int .i64 rc) := (H6.pull 1).cell 3
                   have r4 : w6.cell? ⟨rb, 4, none⟩ = some (.int .i64 rn) := (H6.pull 1).cell 4
                   have r5 : w6.cell? ⟨rb, 5, none⟩ = some (.string ⟨rs.toArray⟩) := (H6.pull 1).cell 5
                   have f3 := (H6.pull 1).frz 3
                   have i0 : w6.cell? ⟨ib', 0, none⟩ = some (.int .i64 op) := (H6.pull 2).cell 0
                   have i5 : w6.cell? ⟨ib', 5, none⟩ = some (.string ⟨is.toArray⟩) := (H6.pull 2).cell 5)
                | (go_at_call 47; refine (cField_num rb 99 3 (by decide) _).mono ?_; rintro e _ ⟨rfl, rfl⟩))
              go_roundg (ls.length - (j + 1))
              case measure => omega
              case rel => exact ⟨j + 1, ⟨ro, ra, rB, 0, rn, rs⟩, rfl, by omega, HR2, HS2, ((H6.pull 1).setCell 3 (.int .i64 0)).swap⟩
        · by_cases hlo : rn < 1
          · obtain rfl : false = R := by rw [hC']; simp [chkF, Ins.get, lowOf, highOf, hlo]
            clear hC' hS'
            go_wp2_with (first
              | (refine wpList_next_more rfl (.tmp 22) rfl k ⟨ls.toArray⟩ j rfl H5 110 hlt' hat (by decide) ?_
                 intro w6 H6
                 have r0 : w6.cell? ⟨rb, 0, none⟩ = some (.int .i64 ro) := (H6.pull 1).cell 0
                 have r1 : w6.cell? ⟨rb, 1, none⟩ = some (.int .i64 ra) := (H6.pull 1).cell 1
                 have r2 : w6.cell? ⟨rb, 2, none⟩ = some (.int .i64 rB) := (H6.pull 1).cell 2
                 have r3 : w6.cell? ⟨rb, 3, none⟩ = some (.int .i64 rc) := (H6.pull 1).cell 3
                 have r4 : w6.cell? ⟨rb, 4, none⟩ = some (.int .i64 rn) := (H6.pull 1).cell 4
                 have r5 : w6.cell? ⟨rb, 5, none⟩ = some (.string ⟨rs.toArray⟩) := (H6.pull 1).cell 5
                 have f4 := (H6.pull 1).frz 4
                 have i0 : w6.cell? ⟨ib', 0, none⟩ = some (.int .i64 op) := (H6.pull 2).cell 0
                 have i5 : w6.cell? ⟨ib', 5, none⟩ = some (.string ⟨is.toArray⟩) := (H6.pull 2).cell 5)
              | (go_at_call 46; refine (cMost_any op _).mono ?_; rintro e _ ⟨rfl, rfl⟩)
              | (go_at_call 47; refine (cField_num rb 110 4 (by decide) _).mono ?_; rintro e _ ⟨rfl, rfl⟩))
            go_ret
            exact ⟨rfl, H6.tail.tail.tail⟩
          · by_cases hhi : mostN op < rn
            · obtain rfl : false = R := by rw [hC']; simp [chkF, Ins.get, lowOf, highOf, hlo, hhi]
              clear hC' hS'
              go_wp2_with (first
                | (refine wpList_next_more rfl (.tmp 22) rfl k ⟨ls.toArray⟩ j rfl H5 110 hlt' hat (by decide) ?_
                   intro w6 H6
                   have r0 : w6.cell? ⟨rb, 0, none⟩ = some (.int .i64 ro) := (H6.pull 1).cell 0
                   have r1 : w6.cell? ⟨rb, 1, none⟩ = some (.int .i64 ra) := (H6.pull 1).cell 1
                   have r2 : w6.cell? ⟨rb, 2, none⟩ = some (.int .i64 rB) := (H6.pull 1).cell 2
                   have r3 : w6.cell? ⟨rb, 3, none⟩ = some (.int .i64 rc) := (H6.pull 1).cell 3
                   have r4 : w6.cell? ⟨rb, 4, none⟩ = some (.int .i64 rn) := (H6.pull 1).cell 4
                   have r5 : w6.cell? ⟨rb, 5, none⟩ = some (.string ⟨rs.toArray⟩) := (H6.pull 1).cell 5
                   have f4 := (H6.pull 1).frz 4
                   have i0 : w6.cell? ⟨ib', 0, none⟩ = some (.int .i64 op) := (H6.pull 2).cell 0
                   have i5 : w6.cell? ⟨ib', 5, none⟩ = some (.string ⟨is.toArray⟩) := (H6.pull 2).cell 5)
                | (go_at_call 46; refine (cMost_any op _).mono ?_; rintro e _ ⟨rfl, rfl⟩)
                | (go_at_call 47; refine (cField_num rb 110 4 (by decide) _).mono ?_; rintro e _ ⟨rfl, rfl⟩))
              go_ret
              exact ⟨rfl, H6.tail.tail.tail⟩
            · have hR2 : R = chkF op (ls.drop (j + 1)) ⟨ro, ra, rB, rc, 0, rs⟩ := by rw [hC']; simp [chkF, Ins.get, Ins.set, lowOf, highOf, hlo, hhi]
              have hS2 : 115 ∈ ls.drop (j + 1) → rs = is := fun h => hS' (by simp [h])
              clear hC' hS'
              have HR2 := Lib.hid hR2
              have HS2 := Lib.hid hS2
              clear hR2 hS2
              go_wp2_with (first
                | (refine wpList_next_more rfl (.tmp 22) rfl k ⟨ls.toArray⟩ j rfl H5 110 hlt' hat (by decide) ?_
                   intro w6 H6
                   have r0 : w6.cell? ⟨rb, 0, none⟩ = some (.int .i64 ro) := (H6.pull 1).cell 0
                   have r1 : w6.cell? ⟨rb, 1, none⟩ = some (.int .i64 ra) := (H6.pull 1).cell 1
                   have r2 : w6.cell? ⟨rb, 2, none⟩ = some (.int .i64 rB) := (H6.pull 1).cell 2
                   have r3 : w6.cell? ⟨rb, 3, none⟩ = some (.int .i64 rc) := (H6.pull 1).cell 3
                   have r4 : w6.cell? ⟨rb, 4, none⟩ = some (.int .i64 rn) := (H6.pull 1).cell 4
                   have r5 : w6.cell? ⟨rb, 5, none⟩ = some (.string ⟨rs.toArray⟩) := (H6.pull 1).cell 5
                   have f4 := (H6.pull 1).frz 4
                   have i0 : w6.cell? ⟨ib', 0, none⟩ = some (.int .i64 op) := (H6.pull 2).cell 0
                   have i5 : w6.cell? ⟨ib', 5, none⟩ = some (.string ⟨is.toArray⟩) := (H6.pull 2).cell 5)
                | (go_at_call 46; refine (cMost_any op _).mono ?_; rintro e _ ⟨rfl, rfl⟩)
                | (go_at_call 47; refine (cField_num rb 110 4 (by decide) _).mono ?_; rintro e _ ⟨rfl, rfl⟩))
              go_roundg (ls.length - (j + 1))
              case measure => omega
              case rel => exact ⟨j + 1, ⟨ro, ra, rB, rc, 0, rs⟩, rfl, by omega, HR2, HS2, ((H6.pull 1).setCell 4 (.int .i64 0)).swap⟩
      · obtain rfl : j = ls.length := by omega
        have hC' := hC.out
        rw [List.drop_length] at hC'
        have hq : insEq ⟨ro, ra, rB, rc, rn, rs⟩ Ins.zero = R := by rw [hC', Bool.eq_iff_iff]; simp [insEq, Ins.zero, chkF, Ins.isZero]
        clear hC hS hC' hnum hnd
        have HQ := Lib.hid hq
        clear hq
        have hov : ¬ ls.length < (ByteArray.mk ls.toArray).size := by rw [ba_size]; omega
        have r0 : wr.cell? ⟨rb, 0, none⟩ = some (.int .i64 ro) := (H5.pull 1).cell 0
        have r1 : wr.cell? ⟨rb, 1, none⟩ = some (.int .i64 ra) := (H5.pull 1).cell 1
        have r2 : wr.cell? ⟨rb, 2, none⟩ = some (.int .i64 rB) := (H5.pull 1).cell 2
        have r3 : wr.cell? ⟨rb, 3, none⟩ = some (.int .i64 rc) := (H5.pull 1).cell 3
        have r4 : wr.cell? ⟨rb, 4, none⟩ = some (.int .i64 rn) := (H5.pull 1).cell 4
        have r5 : wr.cell? ⟨rb, 5, none⟩ = some (.string ⟨rs.toArray⟩) := (H5.pull 1).cell 5
        cases R
        all_goals
          go_wp2_with (first
            | refine wpList_next_over rfl (.tmp 22) rfl k ⟨ls.toArray⟩ ls.length rfl H5 hov ?_
            | (refine wpList_eqi (by rfl) (.tmp 54) (.tmp 55) 26 true rfl ⟨ro, ra, rB, rc, rn, rs⟩ Ins.zero rfl rfl ?_
               rw [HQ.out]))
          go_ret
          exact ⟨rfl, H5.tail.tail.tail⟩
  · have hR : R = false := by rw [← HR.out, mayB, decide_eq_false hop, Bool.false_and]
    subst hR
    clear HR
    by_cases h1 : op < 1
    · show Calls Try.prog 19 #[.agg #[.int .i64 op, .int .i64 ia, .int .i64 ib, .int .i64 ic, .int .i64 im, .string ⟨is.toArray⟩]] w _
      clear hop
      go_enter Try.func19, Try.ntmps19
      go_wp2
      go_ret
      exact ⟨rfl, H.alloc' _⟩
    · have h2 : 15 < op := by omega
      clear hop
      show Calls Try.prog 19 #[.agg #[.int .i64 op, .int .i64 ia, .int .i64 ib, .int .i64 ic, .int .i64 im, .string ⟨is.toArray⟩]] w _
      go_enter Try.func19, Try.ntmps19
      go_wp2
      go_ret
      exact ⟨rfl, H.alloc' _⟩
end Go.Proofs.Ytflcmhmbmippfaa
