/- WordNobody answers true at every thing and ask. -/
import Derived.Test.YtkfeejlpgcmilaaWlPassed
import Derived.Test.YtkfeejlpgcmilaaWdS
import Derived.Test.YtkfeejlpgcmilaaWdT
import Derived.Test.YtkfeejlpgcmilaaWdU
namespace Go.Proofs.Ytkfeejlpgcmilaa
open Go.RowKit Go.Rt

theorem noID_eq (w : World) : (Op.equalIn 10000 33 (.agg #[Value.int .u8 0, Value.int .u8 0, Value.int .u8 0, Value.int .u8 0, Value.int .u8 0, Value.int .u8 0, Value.int .u8 0, Value.int .u8 0, Value.int .u8 0, Value.int .u8 0, Value.int .u8 0, Value.int .u8 0, Value.int .u8 0, Value.int .u8 0, Value.int .u8 0, Value.int .u8 0, Value.int .u8 0, Value.int .u8 0, Value.int .u8 0, Value.int .u8 0, Value.int .u8 0, Value.int .u8 0, Value.int .u8 0, Value.int .u8 0, Value.int .u8 0, Value.int .u8 0, Value.int .u8 0, Value.int .u8 0, Value.int .u8 0, Value.int .u8 0, Value.int .u8 0, Value.int .u8 0]) (.agg #[Value.int .u8 0, Value.int .u8 0, Value.int .u8 0, Value.int .u8 0, Value.int .u8 0, Value.int .u8 0, Value.int .u8 0, Value.int .u8 0, Value.int .u8 0, Value.int .u8 0, Value.int .u8 0, Value.int .u8 0, Value.int .u8 0, Value.int .u8 0, Value.int .u8 0, Value.int .u8 0, Value.int .u8 0, Value.int .u8 0, Value.int .u8 0, Value.int .u8 0, Value.int .u8 0, Value.int .u8 0, Value.int .u8 0, Value.int .u8 0, Value.int .u8 0, Value.int .u8 0, Value.int .u8 0, Value.int .u8 0, Value.int .u8 0, Value.int .u8 0, Value.int .u8 0, Value.int .u8 0])).run Try.prog w = .ok true w := by
  obtain ⟨iU, hiU, _, _, _⟩ := info_parts infoU8
  have h := run_equal_bytes (P := Try.prog) (w := w) 9998 33 5 32 iU Try.underlying33 hiU (by kernel_rfl) Try.underlying5 noID noID rfl rfl
  rw [show (noID == noID) = true by decide] at h
  exact h

set_option maxRecDepth 100000 in
set_option maxHeartbeats 8000000 in
theorem lawNobody_any {W : World} (x : Th) (hd : x.d.length = 32) (hs : x.s.size ≤ 140737488355328) (q : Qn) :
    Calls Try.prog 8 #[.agg x.cs.toArray, .agg q.cs.toArray] W fun e w' => e = .returned (.bool true) ∧ Sat W w' [] := by
  obtain ⟨i0, hi, hz0, hz1, hz2⟩ := info_parts infoT
  obtain ⟨ak, al, an⟩ := q
  have H1 : Sat W ((W.alloc (.cells x.cs.toArray 35)).alloc (.cells #[.int .i64 ak, .int .i64 al, .int .i64 an] 67)) [pt (W.alloc (.cells x.cs.toArray 35)).heap.size #[.int .i64 ak, .int .i64 al, .int .i64 an] 67, pt W.heap.size x.cs.toArray 35] := ((Sat.start W).alloc _ _).alloc _ _
  have hrx : Rd ((W.alloc (.cells x.cs.toArray 35)).alloc (.cells #[.int .i64 ak, .int .i64 al, .int .i64 an] 67)) (some ⟨W.heap.size, 0, none⟩) x.cs := RdL.pt _ H1.tail
  have h35 : x.cs.length = 35 := by simp [Th.cs, hd]
  have HL := Lib.hid h35
  have HZ := Lib.hid (th_size x hd)
  have H2 := H1.alloc x.cs.toArray 35
  show Calls Try.prog 8 #[.agg x.cs.toArray, .agg #[.int .i64 ak, .int .i64 al, .int .i64 an]] W _
  have hb1 : ∀ y ∈ [x], y.d.length = 32 := by simpa using hd
  have hb2 : ∀ y ∈ [x], y.s.size ≤ 140737488355328 := by simpa using hs
  have hrb : Rd (((W.alloc (.cells x.cs.toArray 35)).alloc (.cells #[.int .i64 ak, .int .i64 al, .int .i64 an] 67)).alloc (.cells x.cs.toArray 35)) (some ⟨((W.alloc (.cells x.cs.toArray 35)).alloc (.cells #[.int .i64 ak, .int .i64 al, .int .i64 an] 67)).heap.size, 0, none⟩) (thC [x]) := by
    have h := Rd.new ((W.alloc (.cells x.cs.toArray 35)).alloc (.cells #[.int .i64 ak, .int .i64 al, .int .i64 an] 67)) x.cs.toArray 35
    simpa [thC] using h
  have hbk := bulky_any (some ⟨((W.alloc (.cells x.cs.toArray 35)).alloc (.cells #[.int .i64 ak, .int .i64 al, .int .i64 an] 67)).heap.size, 0, none⟩) 1 [x] hb1 hb2 hrb
  simp only [World.size_alloc, List.length_singleton] at hbk H1 H2
  have HBK := Lib.hid hbk
  clear hbk h35 hb1 hb2 hrb
  go_enter Try.func8, Try.ntmps8
  go_wp2_with (first
    | refine wpList_load_rd rfl (.tmp 2) 35 rfl W.heap.size 0 x.cs (by rw [Try.underlying35]) HZ.out (by simp [Act.eval]) hrx ?_
    | refine wpList_buildSlice_one rfl (.tmp 13) 22 rfl 35 i0 (.agg zT.toArray) x.cs rfl Try.underlying22 hi hz0 (by rw [HL.out]; rfl) (by rw [HL.out, hz1]) (by rw [HL.out]; decide) (by rw [HL.out]; decide) ?_)
  refine HBK.out.mono ?_
  rintro e _ ⟨rfl, rfl⟩
  clear HBK
  have H3 : Sat W _ [pt (W.heap.size + 1) #[.int .i64 ak, .int .i64 al, .int .i64 an] 67, pt W.heap.size x.cs.toArray 35] := H2.tail
  clear H1 H2 hrx
  generalize ((W.alloc (.cells x.cs.toArray 35)).alloc (.cells #[.int .i64 ak, .int .i64 al, .int .i64 an] 67)).alloc (.cells x.cs.toArray 35) = w3 at H3 ⊢
  generalize W.heap.size + 1 = ab at H3 ⊢
  have ⟨xb, hxb⟩ : ∃ xb, W.heap.size = xb := ⟨_, rfl⟩
  rw [hxb] at H3 ⊢
  clear hxb
  cases hB : bulkyB [x] with
  | true =>
    go_wp2_with fail
    refine (awake_any H3).mono ?_
    rintro e w4 ⟨rfl, H4⟩
    go_wp2
    go_ret
    exact ⟨rfl, H4.takes 0⟩
  | false =>
    clear hB
    have H5 := (((H3.alloc offW 75).alloc #[.pointer none, .pointer (some ⟨w3.heap.size, 0, none⟩)] 23).alloc offC 78).alloc #[.pointer none, .pointer (some ⟨w3.heap.size + 1 + 1, 0, none⟩)] 52
    simp only [World.size_alloc] at H5
    have H6 : Sat W _ [pt (w3.heap.size + 1 + 1) offC 78, pt (w3.heap.size + 1 + 1 + 1) #[.pointer none, .pointer (some ⟨w3.heap.size + 1 + 1, 0, none⟩)] 52, pt ab #[.int .i64 ak, .int .i64 al, .int .i64 an] 67, pt (w3.heap.size + 1) #[.pointer none, .pointer (some ⟨w3.heap.size, 0, none⟩)] 23, pt w3.heap.size offW 75, pt xb x.cs.toArray 35] := ((H5.pull 4).pull 1).pull 2
    clear H5 H3
    go_wp2
    generalize w3.heap.size + 1 + 1 + 1 = gr at H6 ⊢
    generalize w3.heap.size + 1 + 1 = orr at H6 ⊢
    generalize w3.heap.size + 1 = gw at H6 ⊢
    generalize w3.heap.size = ow at H6 ⊢
    go_loopw [9] (fun i wc => ∃ (j : Nat), j ≤ 2 ∧ i = .int .i64 j ∧ Sat W wc [pt orr offC 78, pt gr #[.pointer none, .pointer (some ⟨orr, 0, none⟩)] 52, pt ab #[.int .i64 ak, .int .i64 al, .int .i64 an] 67, pt gw #[.pointer none, .pointer (some ⟨ow, 0, none⟩)] 23, pt ow offW 75, pt xb x.cs.toArray 35]) (fun i _ => 2 - (intOf i).toNat)
    case atStart => exact ⟨0, by omega, rfl, H6⟩
    case round =>
      have hEq := noID_eq
      obtain ⟨j, hj, rfl, H6⟩ := hrel
      have hjj : j = 0 ∨ j = 1 ∨ j = 2 := by omega
      rcases hjj with rfl | rfl | rfl
      · have hx9 : Rd wr.drew (some ⟨xb, 0, none⟩) x.cs := RdL.pt _ ((H6.pull 5).drew)
        have hw9 : wr.drew.cell? ⟨gw, 0, none⟩ = some (.pointer none) := (H6.pull 3).cell 0
        go_wp2_with fail
        refine wp_region_held_drew (S := fun w => Rd w (some ⟨xb, 0, none⟩) x.cs ∧ w.cell? ⟨gw, 0, none⟩ = some (.pointer none)) (by kernel_rfl) ⟨hx9, hw9⟩ (fun hS => ?_)
        refine wpAnyH_take (i := 0) (v := ?_) rfl (by kernel_rfl) (by kernel_rfl) (by kernel_rfl) (fun _ _ _ h => h) (Or.inl ⟨by rfl, ?_⟩) hS ?_
        rotate_left
        · intro w hw
          obtain ⟨hx9, hw9⟩ := hw
          go_simp
          try with_reducible rfl
        simp only [Act.put, List.getElem_toArray, List.getElem_cons_zero, List.setIfInBounds_toArray, List.set_cons_zero, List.set_cons_succ]
        refine wpAnyH_take (i := 1) (v := ?_) rfl (by kernel_rfl) (by kernel_rfl) (by kernel_rfl) (fun _ _ _ h => h) (Or.inl ⟨by rfl, ?_⟩) hS ?_
        rotate_left
        · intro w hw
          obtain ⟨hx9, hw9⟩ := hw
          go_simp
          try with_reducible rfl
        simp only [Act.put, List.getElem_toArray, List.getElem_cons_zero, List.getElem_cons_succ, List.setIfInBounds_toArray, List.set_cons_zero, List.set_cons_succ]
        refine wpAnyH_take (i := 2) (v := ?_) rfl (by kernel_rfl) (by kernel_rfl) (by kernel_rfl) (fun _ _ _ h => h) (Or.inl ⟨by rfl, ?_⟩) hS ?_
        rotate_left
        · intro w hw
          obtain ⟨hx9, hw9⟩ := hw
          go_simp
          try with_reducible rfl
        simp only [Act.put, List.getElem_toArray, List.getElem_cons_zero, List.getElem_cons_succ, List.setIfInBounds_toArray, List.set_cons_zero, List.set_cons_succ]
        refine wpAnyH_take (i := 3) (v := ?_) rfl (by kernel_rfl) (by kernel_rfl) (by kernel_rfl) (fun _ _ _ h => h) (Or.inl ⟨by rfl, ?_⟩) hS ?_
        rotate_left
        · intro w hw
          obtain ⟨hx9, hw9⟩ := hw
          go_simp
          try with_reducible rfl
        simp only [Act.put, List.getElem_toArray, List.getElem_cons_zero, List.getElem_cons_succ, List.setIfInBounds_toArray, List.set_cons_zero, List.set_cons_succ]
        refine wpAnyH_take (i := 4) (v := .agg x.cs.toArray) rfl (by kernel_rfl) (by kernel_rfl) (by kernel_rfl) (fun _ _ _ h => h) (Or.inl ⟨by rfl, ?_⟩) hS ?_
        · intro w hw
          have h9 := run_loadVar_rd (P := Try.prog) 35 xb 0 x.cs (by rw [Try.underlying35]) HZ.out hw.1
          simp [execOp, Act.eval, Instr.loadAt, Instr.sureAddr, h9, Result.andThen]
        simp only [Act.put, List.getElem_toArray, List.getElem_cons_zero, List.getElem_cons_succ, List.setIfInBounds_toArray, List.set_cons_zero, List.set_cons_succ]
        refine wpAnyH_ready (rs := [5]) (by kernel_rfl) (by simp) ?_
        refine AllReadyH.cons rfl (fun K hK => ?_) AllReadyH.nil
        go_simp
        refine (lwrite_none x hd H6.drew).mono ?_
        rintro e w7 ⟨rfl, H7⟩
        refine hK.out _ _ ⟨RdL.pt _ (H7.pull 5), (H7.pull 3).cell 0⟩ (fun _ => ?_)
        clear hK K
        refine wpAnyH_done (by kernel_rfl) ?_ _
        have hw7 : w7.cell? ⟨gw, 0, none⟩ = some (.pointer none) := (H7.pull 3).cell 0
        go_wp2_with fail
        refine (wOut_none _).mono ?_
        rintro e _ ⟨rfl, rfl⟩
        have H8 : Sat W (w7.alloc (.cells #[.int .i64 1, .int .i64 0] 58)) (pt w7.heap.size #[.int .i64 1, .int .i64 0] 58 :: _) := H7.alloc _ _
        replace H8 := H8.swap
        go_wp2_with fail
        generalize w7.heap.size = nb at H8 ⊢
        have g0r : (w7.alloc (.cells #[.int .i64 1, .int .i64 0] 58)).cell? ⟨gr, 0, none⟩ = some (.pointer none) := (H8.pull 2).cell 0
        have g0l : (w7.alloc (.cells #[.int .i64 1, .int .i64 0] 58)).cell? ⟨ab, 1, none⟩ = some (.int .i64 al) := (H8.pull 3).cell 1
        have g0n : (w7.alloc (.cells #[.int .i64 1, .int .i64 0] 58)).cell? ⟨ab, 2, none⟩ = some (.int .i64 an) := (H8.pull 3).cell 2
        have HID : Hid (∀ w', Sat W w' _ → Calls Try.prog 45 #[.pointer none] w' fun e w'' => e = .returned (.agg #[Value.int .u8 0, Value.int .u8 0, Value.int .u8 0, Value.int .u8 0, Value.int .u8 0, Value.int .u8 0, Value.int .u8 0, Value.int .u8 0, Value.int .u8 0, Value.int .u8 0, Value.int .u8 0, Value.int .u8 0, Value.int .u8 0, Value.int .u8 0, Value.int .u8 0, Value.int .u8 0, Value.int .u8 0, Value.int .u8 0, Value.int .u8 0, Value.int .u8 0, Value.int .u8 0, Value.int .u8 0, Value.int .u8 0, Value.int .u8 0, Value.int .u8 0, Value.int .u8 0, Value.int .u8 0, Value.int .u8 0, Value.int .u8 0, Value.int .u8 0, Value.int .u8 0, Value.int .u8 0]) ∧ Sat W w'' (pt orr offC 78 :: pt nb #[.int .i64 1, .int .i64 0] 58 :: pt gr #[.pointer none, .pointer (some ⟨orr, 0, none⟩)] 52 :: pt ab #[.int .i64 ak, .int .i64 al, .int .i64 an] 67 :: pt gw #[.pointer none, .pointer (some ⟨ow, 0, none⟩)] 23 :: pt ow offW 75 :: pt xb x.cs.toArray 35 :: [])) := fun w' h => (rID_none  h)
        go_region_held3 (fun w' => w'.cell? ⟨gr, 0, none⟩ = some (.pointer none) ∧ w'.cell? ⟨ab, 1, none⟩ = some (.int .i64 al) ∧ w'.cell? ⟨ab, 2, none⟩ = some (.int .i64 an)) (exact ⟨‹_›, ‹_›, ‹_›⟩) (first
          | (go_at_call 32; refine (rInt_none al an H8.drew).mono ?_; rintro e w9 ⟨rfl, H9⟩
             have g1r : w9.cell? ⟨gr, 0, none⟩ = some (.pointer none) := (H9.pull 2).cell 0
             have g1l : w9.cell? ⟨ab, 1, none⟩ = some (.int .i64 al) := (H9.pull 3).cell 1
             have g1n : w9.cell? ⟨ab, 2, none⟩ = some (.int .i64 an) := (H9.pull 3).cell 2)
          | (go_at_call 42; refine (rCount_none an H9).mono ?_; rintro e w10 ⟨rfl, H10⟩
             have g2r : w10.cell? ⟨gr, 0, none⟩ = some (.pointer none) := (H10.pull 2).cell 0
             have g2l : w10.cell? ⟨ab, 1, none⟩ = some (.int .i64 al) := (H10.pull 3).cell 1
             have g2n : w10.cell? ⟨ab, 2, none⟩ = some (.int .i64 an) := (H10.pull 3).cell 2)
          | (go_at_call 35; refine (rText_none an H10).mono ?_; rintro e w11 ⟨rfl, H11⟩
             have g3r : w11.cell? ⟨gr, 0, none⟩ = some (.pointer none) := (H11.pull 2).cell 0
             have g3l : w11.cell? ⟨ab, 1, none⟩ = some (.int .i64 al) := (H11.pull 3).cell 1
             have g3n : w11.cell? ⟨ab, 2, none⟩ = some (.int .i64 an) := (H11.pull 3).cell 2)
          | (go_at_call 45; refine (HID.out _ H11).mono ?_; rintro e w12 ⟨rfl, H12⟩
             have g4r : w12.cell? ⟨gr, 0, none⟩ = some (.pointer none) := (H12.pull 2).cell 0
             have g4l : w12.cell? ⟨ab, 1, none⟩ = some (.int .i64 al) := (H12.pull 3).cell 1
             have g4n : w12.cell? ⟨ab, 2, none⟩ = some (.int .i64 an) := (H12.pull 3).cell 2))
        go_wp2_with fail
        have k5r : w12.cell? ⟨gr, 0, none⟩ = some (.pointer none) := (H12.pull 2).cell 0
        have k50 : w12.cell? ⟨nb, 0, none⟩ = some (.int .i64 1) := (H12.pull 1).cell 0
        have k51 : w12.cell? ⟨nb, 1, none⟩ = some (.int .i64 0) := (H12.pull 1).cell 1
        have hw0 : IntKind.i64.wrap 0 = 0 := rfl
        go_region_held3 (fun w' => w'.cell? ⟨gr, 0, none⟩ = some (.pointer none) ∧ w'.cell? ⟨nb, 0, none⟩ = some (.int .i64 1) ∧ w'.cell? ⟨nb, 1, none⟩ = some (.int .i64 0)) (exact ⟨‹_›, ‹_›, ‹_›⟩) (first
          | (go_at_call 33; refine (rAt_none _).mono ?_; rintro e _ ⟨rfl, rfl⟩)
          | (go_at_call 36; refine (rLeft_none _).mono ?_; rintro e _ ⟨rfl, rfl⟩)
          | (go_at_call 34; refine (rFault_none  H12.drew).mono ?_; rintro e w13 ⟨rfl, H13⟩
             have k6r : w13.cell? ⟨gr, 0, none⟩ = some (.pointer none) := (H13.pull 2).cell 0
             have k60 : w13.cell? ⟨nb, 0, none⟩ = some (.int .i64 1) := (H13.pull 1).cell 0
             have k61 : w13.cell? ⟨nb, 1, none⟩ = some (.int .i64 0) := (H13.pull 1).cell 1)
          | (go_at_call 48; refine (rEnd_none  H13).mono ?_; rintro e w14 ⟨rfl, H14⟩
             have k7r : w14.cell? ⟨gr, 0, none⟩ = some (.pointer none) := (H14.pull 2).cell 0
             have k70 : w14.cell? ⟨nb, 0, none⟩ = some (.int .i64 1) := (H14.pull 1).cell 0
             have k71 : w14.cell? ⟨nb, 1, none⟩ = some (.int .i64 0) := (H14.pull 1).cell 1))
        go_wp2
        exact ⟨⟨1, by omega, by go_num, H14.swap.tail⟩, by simp [intOf]⟩
      · have hx9 : Rd wr.drew (some ⟨xb, 0, none⟩) x.cs := RdL.pt _ ((H6.pull 5).drew)
        have hw9 : wr.drew.cell? ⟨gw, 1, none⟩ = some (.pointer (some ⟨ow, 0, none⟩)) := (H6.pull 3).cell 1
        go_wp2_with fail
        refine wp_region_held_drew (S := fun w => Rd w (some ⟨xb, 0, none⟩) x.cs ∧ w.cell? ⟨gw, 1, none⟩ = some (.pointer (some ⟨ow, 0, none⟩))) (by kernel_rfl) ⟨hx9, hw9⟩ (fun hS => ?_)
        refine wpAnyH_take (i := 0) (v := ?_) rfl (by kernel_rfl) (by kernel_rfl) (by kernel_rfl) (fun _ _ _ h => h) (Or.inl ⟨by rfl, ?_⟩) hS ?_
        rotate_left
        · intro w hw
          obtain ⟨hx9, hw9⟩ := hw
          go_simp
          try with_reducible rfl
        simp only [Act.put, List.getElem_toArray, List.getElem_cons_zero, List.setIfInBounds_toArray, List.set_cons_zero, List.set_cons_succ]
        refine wpAnyH_take (i := 1) (v := ?_) rfl (by kernel_rfl) (by kernel_rfl) (by kernel_rfl) (fun _ _ _ h => h) (Or.inl ⟨by rfl, ?_⟩) hS ?_
        rotate_left
        · intro w hw
          obtain ⟨hx9, hw9⟩ := hw
          go_simp
          try with_reducible rfl
        simp only [Act.put, List.getElem_toArray, List.getElem_cons_zero, List.getElem_cons_succ, List.setIfInBounds_toArray, List.set_cons_zero, List.set_cons_succ]
        refine wpAnyH_take (i := 2) (v := ?_) rfl (by kernel_rfl) (by kernel_rfl) (by kernel_rfl) (fun _ _ _ h => h) (Or.inl ⟨by rfl, ?_⟩) hS ?_
        rotate_left
        · intro w hw
          obtain ⟨hx9, hw9⟩ := hw
          go_simp
          try with_reducible rfl
        simp only [Act.put, List.getElem_toArray, List.getElem_cons_zero, List.getElem_cons_succ, List.setIfInBounds_toArray, List.set_cons_zero, List.set_cons_succ]
        refine wpAnyH_take (i := 3) (v := ?_) rfl (by kernel_rfl) (by kernel_rfl) (by kernel_rfl) (fun _ _ _ h => h) (Or.inl ⟨by rfl, ?_⟩) hS ?_
        rotate_left
        · intro w hw
          obtain ⟨hx9, hw9⟩ := hw
          go_simp
          try with_reducible rfl
        simp only [Act.put, List.getElem_toArray, List.getElem_cons_zero, List.getElem_cons_succ, List.setIfInBounds_toArray, List.set_cons_zero, List.set_cons_succ]
        refine wpAnyH_take (i := 4) (v := .agg x.cs.toArray) rfl (by kernel_rfl) (by kernel_rfl) (by kernel_rfl) (fun _ _ _ h => h) (Or.inl ⟨by rfl, ?_⟩) hS ?_
        · intro w hw
          have h9 := run_loadVar_rd (P := Try.prog) 35 xb 0 x.cs (by rw [Try.underlying35]) HZ.out hw.1
          simp [execOp, Act.eval, Instr.loadAt, Instr.sureAddr, h9, Result.andThen]
        simp only [Act.put, List.getElem_toArray, List.getElem_cons_zero, List.getElem_cons_succ, List.setIfInBounds_toArray, List.set_cons_zero, List.set_cons_succ]
        refine wpAnyH_ready (rs := [5]) (by kernel_rfl) (by simp) ?_
        refine AllReadyH.cons rfl (fun K hK => ?_) AllReadyH.nil
        go_simp
        refine (lwrite_off x hd (H6.pull 4).drew).mono ?_
        rintro e w7 ⟨rfl, H7'⟩
        have H7 : Sat W w7 [pt orr offC 78, pt gr #[.pointer none, .pointer (some ⟨orr, 0, none⟩)] 52, pt ab #[.int .i64 ak, .int .i64 al, .int .i64 an] 67, pt gw #[.pointer none, .pointer (some ⟨ow, 0, none⟩)] 23, pt ow offW 75, pt xb x.cs.toArray 35] := (H7'.sink [_, _, _, _])
        refine hK.out _ _ ⟨RdL.pt _ (H7.pull 5), (H7.pull 3).cell 1⟩ (fun _ => ?_)
        clear hK K
        refine wpAnyH_done (by kernel_rfl) ?_ _
        have hw7 : w7.cell? ⟨gw, 1, none⟩ = some (.pointer (some ⟨ow, 0, none⟩)) := (H7.pull 3).cell 1
        go_wp2_with fail
        refine (wOut_off ow _ ((H7.pull 4).cell 0)).mono ?_
        rintro e _ ⟨rfl, rfl⟩
        have H8 : Sat W (w7.alloc (.cells #[.int .i64 1, .int .i64 0] 58)) (pt w7.heap.size #[.int .i64 1, .int .i64 0] 58 :: _) := H7.alloc _ _
        replace H8 := H8.swap
        go_wp2_with fail
        generalize w7.heap.size = nb at H8 ⊢
        have g0r : (w7.alloc (.cells #[.int .i64 1, .int .i64 0] 58)).cell? ⟨gr, 1, none⟩ = some (.pointer (some ⟨orr, 0, none⟩)) := (H8.pull 2).cell 1
        have g0l : (w7.alloc (.cells #[.int .i64 1, .int .i64 0] 58)).cell? ⟨ab, 1, none⟩ = some (.int .i64 al) := (H8.pull 3).cell 1
        have g0n : (w7.alloc (.cells #[.int .i64 1, .int .i64 0] 58)).cell? ⟨ab, 2, none⟩ = some (.int .i64 an) := (H8.pull 3).cell 2
        have HID : Hid (∀ w', Sat W w' _ → Calls Try.prog 45 #[.pointer (some ⟨orr, 0, none⟩)] w' fun e w'' => e = .returned (.agg #[Value.int .u8 0, Value.int .u8 0, Value.int .u8 0, Value.int .u8 0, Value.int .u8 0, Value.int .u8 0, Value.int .u8 0, Value.int .u8 0, Value.int .u8 0, Value.int .u8 0, Value.int .u8 0, Value.int .u8 0, Value.int .u8 0, Value.int .u8 0, Value.int .u8 0, Value.int .u8 0, Value.int .u8 0, Value.int .u8 0, Value.int .u8 0, Value.int .u8 0, Value.int .u8 0, Value.int .u8 0, Value.int .u8 0, Value.int .u8 0, Value.int .u8 0, Value.int .u8 0, Value.int .u8 0, Value.int .u8 0, Value.int .u8 0, Value.int .u8 0, Value.int .u8 0, Value.int .u8 0]) ∧ Sat W w'' (pt orr offC 78 :: pt nb #[.int .i64 1, .int .i64 0] 58 :: pt gr #[.pointer none, .pointer (some ⟨orr, 0, none⟩)] 52 :: pt ab #[.int .i64 ak, .int .i64 al, .int .i64 an] 67 :: pt gw #[.pointer none, .pointer (some ⟨ow, 0, none⟩)] 23 :: pt ow offW 75 :: pt xb x.cs.toArray 35 :: [])) := fun w' h => (rID_off orr  h)
        go_region_held3 (fun w' => w'.cell? ⟨gr, 1, none⟩ = some (.pointer (some ⟨orr, 0, none⟩)) ∧ w'.cell? ⟨ab, 1, none⟩ = some (.int .i64 al) ∧ w'.cell? ⟨ab, 2, none⟩ = some (.int .i64 an)) (exact ⟨‹_›, ‹_›, ‹_›⟩) (first
          | (go_at_call 32; refine (rInt_off orr al an H8.drew).mono ?_; rintro e w9 ⟨rfl, H9⟩
             have g1r : w9.cell? ⟨gr, 1, none⟩ = some (.pointer (some ⟨orr, 0, none⟩)) := (H9.pull 2).cell 1
             have g1l : w9.cell? ⟨ab, 1, none⟩ = some (.int .i64 al) := (H9.pull 3).cell 1
             have g1n : w9.cell? ⟨ab, 2, none⟩ = some (.int .i64 an) := (H9.pull 3).cell 2)
          | (go_at_call 42; refine (rCount_off orr an H9).mono ?_; rintro e w10 ⟨rfl, H10⟩
             have g2r : w10.cell? ⟨gr, 1, none⟩ = some (.pointer (some ⟨orr, 0, none⟩)) := (H10.pull 2).cell 1
             have g2l : w10.cell? ⟨ab, 1, none⟩ = some (.int .i64 al) := (H10.pull 3).cell 1
             have g2n : w10.cell? ⟨ab, 2, none⟩ = some (.int .i64 an) := (H10.pull 3).cell 2)
          | (go_at_call 35; refine (rText_off orr an H10).mono ?_; rintro e w11 ⟨rfl, H11⟩
             have g3r : w11.cell? ⟨gr, 1, none⟩ = some (.pointer (some ⟨orr, 0, none⟩)) := (H11.pull 2).cell 1
             have g3l : w11.cell? ⟨ab, 1, none⟩ = some (.int .i64 al) := (H11.pull 3).cell 1
             have g3n : w11.cell? ⟨ab, 2, none⟩ = some (.int .i64 an) := (H11.pull 3).cell 2)
          | (go_at_call 45; refine (HID.out _ H11).mono ?_; rintro e w12 ⟨rfl, H12⟩
             have g4r : w12.cell? ⟨gr, 1, none⟩ = some (.pointer (some ⟨orr, 0, none⟩)) := (H12.pull 2).cell 1
             have g4l : w12.cell? ⟨ab, 1, none⟩ = some (.int .i64 al) := (H12.pull 3).cell 1
             have g4n : w12.cell? ⟨ab, 2, none⟩ = some (.int .i64 an) := (H12.pull 3).cell 2))
        go_wp2_with fail
        have k5r : w12.cell? ⟨gr, 1, none⟩ = some (.pointer (some ⟨orr, 0, none⟩)) := (H12.pull 2).cell 1
        have k50 : w12.cell? ⟨nb, 0, none⟩ = some (.int .i64 1) := (H12.pull 1).cell 0
        have k51 : w12.cell? ⟨nb, 1, none⟩ = some (.int .i64 0) := (H12.pull 1).cell 1
        have hw0 : IntKind.i64.wrap 0 = 0 := rfl
        go_region_held3 (fun w' => w'.cell? ⟨gr, 1, none⟩ = some (.pointer (some ⟨orr, 0, none⟩)) ∧ w'.cell? ⟨nb, 0, none⟩ = some (.int .i64 1) ∧ w'.cell? ⟨nb, 1, none⟩ = some (.int .i64 0)) (exact ⟨‹_›, ‹_›, ‹_›⟩) (first
          | (go_at_call 33; refine (rAt_off orr H12.drew).mono ?_; rintro e _ ⟨rfl, rfl⟩)
          | (go_at_call 36; refine (rLeft_off orr H12.drew).mono ?_; rintro e _ ⟨rfl, rfl⟩)
          | (go_at_call 34; refine (rFault_off orr  H12.drew).mono ?_; rintro e w13 ⟨rfl, H13⟩
             have k6r : w13.cell? ⟨gr, 1, none⟩ = some (.pointer (some ⟨orr, 0, none⟩)) := (H13.pull 2).cell 1
             have k60 : w13.cell? ⟨nb, 0, none⟩ = some (.int .i64 1) := (H13.pull 1).cell 0
             have k61 : w13.cell? ⟨nb, 1, none⟩ = some (.int .i64 0) := (H13.pull 1).cell 1)
          | (go_at_call 48; refine (rEnd_off orr  H13).mono ?_; rintro e w14 ⟨rfl, H14⟩
             have k7r : w14.cell? ⟨gr, 1, none⟩ = some (.pointer (some ⟨orr, 0, none⟩)) := (H14.pull 2).cell 1
             have k70 : w14.cell? ⟨nb, 0, none⟩ = some (.int .i64 1) := (H14.pull 1).cell 0
             have k71 : w14.cell? ⟨nb, 1, none⟩ = some (.int .i64 0) := (H14.pull 1).cell 1))
        go_wp2
        exact ⟨⟨2, by omega, by go_num, H14.swap.tail⟩, by simp [intOf]⟩
      · go_wp2_with fail
        refine (awake_any H6).mono ?_
        rintro e w4 ⟨rfl, H7⟩
        go_wp2
        go_ret
        exact ⟨rfl, H7.takes 0⟩
end Go.Proofs.Ytkfeejlpgcmilaa
