/- Package word's reader, nil or not made: ID, End. -/
import Derived.Test.YtkfeejlpgcmilaaWdR
namespace Go.Proofs.Ytkfeejlpgcmilaa
open Go.RowKit Go.Rt

set_option maxRecDepth 100000 in
theorem rID_none {W w : World} {l : List SL} (H : Sat W w (l)) :
    Calls Try.prog 45 #[.pointer none] w fun e w' => e = .returned (idv noID) ∧ Sat W w' (l) := by
  have hmf : ∀ (fn : Fn) (first cap : Array Value) (w : World), (Instr.makeFunc fn first cap).run Try.prog w = .ok (.func fn first cap) w := fun _ _ _ _ => rfl
  have H0 := (((H.alloc' (.cells #[.pointer none] 52)).alloc (noID.map B).toArray 33).alloc' (.cells (noID.map B).toArray 33))
  simp only [World.size_alloc] at H0
  have hsz : (Try.prog.info? 33).map (·.size) = some (noID.map B).length := by rw [List.length_map]; kernel_rfl
  go_enter Try.func45, Try.ntmps45
  go_wp2_with fail
  change Calls Try.prog _ _ (((w.alloc (.cells #[.pointer none] 52)).alloc (.cells (noID.map B).toArray 33)).alloc (.cells (noID.map B).toArray 33)) _
  generalize ((w.alloc _).alloc _).alloc _ = wo at H0 ⊢
  generalize w.heap.size + 1 + 1 = b4 at H0 ⊢
  generalize w.heap.size + 1 = b2 at H0 ⊢
  generalize w.heap.size = b1 at H0 ⊢
  refine (try_none _ _).mono ?_
  rintro e w1 ⟨rfl, HB⟩
  have H2 := H0.below HB
  clear H0 hmf
  go_wp2_with (refine wpList_store_pt rfl rfl (.tmp 2) (.tmp 8) 33 rfl b2 (noID.map B).toArray 33 (noID.map B) hsz (by simp [Act.eval]) rfl (by decide) (B_one _) H2 ?_
               intro w3 H3)
  exact bodyPost_ret (v := idv noID) (results_cell_row Try.results45 _ w3 b2 33 (noID.map B).toArray (0, 0) _ rfl H3.heap Try.underlying33 rfl (by simpa using hsz)) rfl ⟨rfl, H3.tail⟩

theorem rEnd_none {W w : World} {l : List SL} (H : Sat W w (l)) :
    Calls Try.prog 48 #[.pointer none] w fun e w' => e = .returned (.agg #[.int .i64 1, .int .i64 0]) ∧ Sat W w' (l) := by
  have H0 := (H.alloc #[.int .i64 0, .int .i64 0] 58)
  go_enter Try.func48, Try.ntmps48
  go_wp2_with fail
  refine (rFault_none H0).mono ?_
  rintro e w1 ⟨rfl, H1'⟩
  have H1 : Sat W w1 (pt w.heap.size #[.int .i64 0, .int .i64 0] 58 :: l) := H1'
  clear H0 H1'
  generalize w.heap.size = b at H1 ⊢
  have hbl : b < w1.heap.size := H1.lt
  have i0 : w1.cell? ⟨b, 0, none⟩ = some (.int .i64 0) := H1.cell 0
  have i1 : w1.cell? ⟨b, 1, none⟩ = some (.int .i64 0) := H1.cell 1
  have j0 := H1.frz 0
  have j1 := H1.frz 1
  have H6 := ((H1.setCell 0 (.int .i64 1)).setCell 1 (.int .i64 0)).alloc' (.cells #[.int .i64 1, .int .i64 0] 58)
  go_wp2_with fail
  generalize ((w1.setCell _ _).setCell _ _).alloc _ = wF at H6 ⊢
  have k0 : wF.cell? ⟨b, 0, none⟩ = some (.int .i64 1) := H6.cell 0
  have k1 : wF.cell? ⟨b, 1, none⟩ = some (.int .i64 0) := H6.cell 1
  exact bodyPost_ret (v := .agg #[.int .i64 1, .int .i64 0]) (by simp [results, Try.results48, go_sem, k0, k1]) rfl ⟨rfl, H6.tail⟩

set_option maxRecDepth 100000 in
theorem rID_off {W w : World} {l : List SL} (p : Nat) (H : Sat W w (pt p offC 78 :: l)) :
    Calls Try.prog 45 #[.pointer (some ⟨p, 0, none⟩)] w fun e w' => e = .returned (idv noID) ∧ Sat W w' (pt p offC 78 :: l) := by
  have hmf : ∀ (fn : Fn) (first cap : Array Value) (w : World), (Instr.makeFunc fn first cap).run Try.prog w = .ok (.func fn first cap) w := fun _ _ _ _ => rfl
  have H0 := (((H.alloc' (.cells #[.pointer (some ⟨p, 0, none⟩)] 52)).alloc (noID.map B).toArray 33).alloc' (.cells (noID.map B).toArray 33))
  simp only [World.size_alloc] at H0
  have hsz : (Try.prog.info? 33).map (·.size) = some (noID.map B).length := by rw [List.length_map]; kernel_rfl
  go_enter Try.func45, Try.ntmps45
  go_wp2_with fail
  change Calls Try.prog _ _ (((w.alloc (.cells #[.pointer (some ⟨p, 0, none⟩)] 52)).alloc (.cells (noID.map B).toArray 33)).alloc (.cells (noID.map B).toArray 33)) _
  generalize ((w.alloc _).alloc _).alloc _ = wo at H0 ⊢
  generalize w.heap.size + 1 + 1 = b4 at H0 ⊢
  generalize w.heap.size + 1 = b2 at H0 ⊢
  generalize w.heap.size = b1 at H0 ⊢
  refine (try_off p _ _ (H0.swap.cell 0)).mono ?_
  rintro e w1 ⟨rfl, HB⟩
  have H2 := H0.below HB
  clear H0 hmf
  go_wp2_with (refine wpList_store_pt rfl rfl (.tmp 2) (.tmp 8) 33 rfl b2 (noID.map B).toArray 33 (noID.map B) hsz (by simp [Act.eval]) rfl (by decide) (B_one _) H2 ?_
               intro w3 H3)
  exact bodyPost_ret (v := idv noID) (results_cell_row Try.results45 _ w3 b2 33 (noID.map B).toArray (0, 0) _ rfl H3.heap Try.underlying33 rfl (by simpa using hsz)) rfl ⟨rfl, H3.tail⟩

theorem rEnd_off {W w : World} {l : List SL} (p : Nat) (H : Sat W w (pt p offC 78 :: l)) :
    Calls Try.prog 48 #[.pointer (some ⟨p, 0, none⟩)] w fun e w' => e = .returned (.agg #[.int .i64 1, .int .i64 0]) ∧ Sat W w' (pt p offC 78 :: l) := by
  have H0 := (H.alloc #[.int .i64 0, .int .i64 0] 58)
  go_enter Try.func48, Try.ntmps48
  go_wp2_with fail
  refine (rFault_off p H0.swap).mono ?_
  rintro e w1 ⟨rfl, H1'⟩
  have H1 : Sat W w1 (pt w.heap.size #[.int .i64 0, .int .i64 0] 58 :: pt p offC 78 :: l) := H1'.swap
  clear H0 H1'
  generalize w.heap.size = b at H1 ⊢
  have hbl : b < w1.heap.size := H1.lt
  have i0 : w1.cell? ⟨b, 0, none⟩ = some (.int .i64 0) := H1.cell 0
  have i1 : w1.cell? ⟨b, 1, none⟩ = some (.int .i64 0) := H1.cell 1
  have j0 := H1.frz 0
  have j1 := H1.frz 1
  have H6 := ((H1.setCell 0 (.int .i64 1)).setCell 1 (.int .i64 0)).alloc' (.cells #[.int .i64 1, .int .i64 0] 58)
  go_wp2_with fail
  generalize ((w1.setCell _ _).setCell _ _).alloc _ = wF at H6 ⊢
  have k0 : wF.cell? ⟨b, 0, none⟩ = some (.int .i64 1) := H6.cell 0
  have k1 : wF.cell? ⟨b, 1, none⟩ = some (.int .i64 0) := H6.cell 1
  exact bodyPost_ret (v := .agg #[.int .i64 1, .int .i64 0]) (by simp [results, Try.results48, go_sem, k0, k1]) rfl ⟨rfl, H6.tail⟩
end Go.Proofs.Ytkfeejlpgcmilaa
