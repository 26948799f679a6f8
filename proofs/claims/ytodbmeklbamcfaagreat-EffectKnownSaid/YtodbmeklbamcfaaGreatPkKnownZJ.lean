/- A pack of texts: KiK -/
import Derived.Test.YtodbmeklbamcfaaGreatPkKnownZF
import Derived.Test.YtodbmeklbamcfaaGreatPkKnownZI
import Derived.Test.YtodbmeklbamcfaaGreatPkKnownQ
/- An effect written over; the chapter's effect; what the document's examples say. -/
namespace Go.Proofs.YtodbmeklbamcfaaGreat
open Go.RowKit Go.Rt

/-- An effect's lists, its own, the texts new ones. -/
def efN (x : Ef) (q : EfAt) (L : List SL) : List SL := row 65 zWt (.slice q.A'' x.ws.length q.c'') x.ws.length (wtC x.ws) :: row 74 zSp (.slice q.A' x.ss.length q.c') x.ss.length (spC x.ss) :: seenS 9 (.slice q.A x.rs.length q.c) x.rs.length (tsC x.rs) :: L
theorem _root_.Go.Rt.Sat.bslN {W w : World} {l : List SL} {e : TypeId} {zc : List Value} {A : Option Addr} {n c : Nat} {xs : List Value} (H : Sat W w (newS e zc (.slice A n c) n xs :: l)) : Bsl A n c := by
  obtain ⟨_, A', c', hv, h1, h2, h3, _⟩ := H.new_slice
  cases hv
  exact ⟨h1, fun h => (h3 h).1, h2⟩
theorem efN_rd {W w : World} {L : List SL} {x : Ef} {q : EfAt} (H : Sat W w (efN x q L)) : EfRd W (efN x q L) x q :=
  ⟨H.tail.tail.bslN, H.tail.bsl, H.bsl, RdL.tail (RdL.tail RdL.newS), RdL.tail RdL.row, RdL.row⟩
set_option maxRecDepth 100000 in
set_option maxHeartbeats 4000000 in
theorem OverEffect_any {W w : World} {L : List SL} (x : Ef) (q : EfAt) (ht : ∀ t ∈ x.rs, t.length ≤ 1000000) (H : Sat W w (efN x q L)) :
    Calls Tryz.prog 34 #[x.v q] w fun e w' => e = .returned (.tuple #[]) ∧ Sat W w' L := by
  obtain ⟨why, steps, rs, ss, ws⟩ := x
  obtain ⟨A, c, A', c', A'', c''⟩ := q
  dsimp only [efN] at H ht
  have H1 := H.alloc #[.int .i64 why, .int .i64 steps, .slice A rs.length c, .slice A' ss.length c', .slice A'' ws.length c''] 26
  have c2 := H1.cell 2
  have K1 := Lib.hid (fun (w0 : World) (L0 : List SL) (h : Sat W w0 (seenS 9 (.slice A rs.length c) rs.length (tsC rs) :: L0)) => OverTexts_any A c rs ht h)
  have K2 := Lib.hid (fun (w0 : World) (L0 : List SL) (h : Sat W w0 (row 74 zSp (.slice A' ss.length c') ss.length (spC ss) :: L0)) => OverSpans_any A' ss.length c' (spC ss) h)
  have K3 := Lib.hid (fun (w0 : World) (L0 : List SL) (h : Sat W w0 (row 65 zWt (.slice A'' ws.length c'') ws.length (wtC ws) :: L0)) => OverWrites_any A'' ws.length c'' (wtC ws) h)
  clear ht H
  show Calls Tryz.prog 34 #[.agg #[.int .i64 why, .int .i64 steps, .slice A rs.length c, .slice A' ss.length c', .slice A'' ws.length c'']] w _
  go_enter Tryz.func34, Tryz.ntmps34
  go_wp2_with fail
  refine (K1.out _ _ (H1.pull 3)).mono ?_
  rintro e w2 ⟨rfl, H2⟩
  have c3 := H2.cell 3
  go_wp2_with fail
  refine (K2.out _ _ (H2.pull 2)).mono ?_
  rintro e w3 ⟨rfl, H3⟩
  have c4 := H3.cell 4
  go_wp2_with fail
  refine (K3.out _ _ H3.swap).mono ?_
  rintro e w4 ⟨rfl, H4⟩
  go_wp2
  go_end0
  exact ⟨rfl, H4.tail⟩

/-- The chapter's effect. -/
def smpX : Ef := ⟨0, 3, [[98]], [⟨[99], [100]⟩], [⟨[98], [50], false⟩]⟩
theorem smp_bytes : bytesE smpX = ([0, 3, 1, 1, 98, 1, 1, 99, 1, 100, 1, 1, 98, 0, 1, 50], 0) := by decide +kernel
theorem smp_meets : meetsX smpX [[99, 50]] = true := by decide +kernel
theorem smp_ok : EfOk smpX := ⟨by decide, by decide, by decide, by decide, by decide, by decide⟩
/-- The lists of an effect that is laid as a literal. -/
def smpL (b1 b2 b3 : Nat) (L : List SL) : List SL := pt b3 (wtC smpX.ws).toArray 65 :: pt b2 (spC smpX.ss).toArray 74 :: pt b1 (tsC smpX.rs).toArray 9 :: L
def smpP (b1 b2 b3 : Nat) : EfAt := ⟨some ⟨b1, 0, none⟩, 1, some ⟨b2, 0, none⟩, 1, some ⟨b3, 0, none⟩, 1⟩
theorem smp_rd {W : World} {L : List SL} (b1 b2 b3 : Nat) : EfRd W (smpL b1 b2 b3 L) smpX (smpP b1 b2 b3) :=
  ⟨⟨Nat.le_refl _, nofun, by simp [smpP, maxLen]⟩, ⟨Nat.le_refl _, nofun, by simp [smpP, maxLen]⟩, ⟨Nat.le_refl _, nofun, by simp [smpP, maxLen]⟩, RdL.tail (RdL.tail RdL.pt), RdL.tail RdL.pt, RdL.pt⟩
set_option maxRecDepth 100000 in
set_option maxHeartbeats 4000000 in
theorem efsample_any {W w : World} {L : List SL} (H : Sat W w L) :
    Calls Tryz.prog 35 #[] w fun e w' => ∃ b1 b2 b3, e = .returned (smpX.v (smpP b1 b2 b3)) ∧ Sat W w' (smpL b1 b2 b3 L) := by
  have H1 := (((H.alloc #[.int .i64 0, .int .i64 0, .slice none 0 0, .slice none 0 0, .slice none 0 0] 26).alloc (tsC smpX.rs).toArray 9).alloc (spC smpX.ss).toArray 74).alloc (wtC smpX.ws).toArray 65
  simp only [World.size_alloc] at H1
  go_enter Tryz.func35, Tryz.ntmps35
  go_wp2_with (first
    | (((refine wpList_store_pt rfl rfl (.tmp 0) (.tmp 6) 26 rfl w.heap.size #[.int .i64 0, .int .i64 0, .slice none 0 0, .slice none 0 0, .slice none 0 0] 26 [.int .i64 0, .int .i64 3, .slice (some ⟨w.heap.size + 1, 0, none⟩) 1 1, .slice (some ⟨w.heap.size + 1 + 1, 0, none⟩) 1 1, .slice (some ⟨w.heap.size + 1 + 1 + 1, 0, none⟩) 1 1] ef_size rfl rfl rfl (ef_one smpX (smpP (w.heap.size + 1) (w.heap.size + 1 + 1) (w.heap.size + 1 + 1 + 1))) (H1.pull 3) ?_); intro w9 H9)))
  exact bodyPost_ret (v := .agg #[.int .i64 0, .int .i64 3, .slice (some ⟨w.heap.size + 1, 0, none⟩) 1 1, .slice (some ⟨w.heap.size + 1 + 1, 0, none⟩) 1 1, .slice (some ⟨w.heap.size + 1 + 1 + 1, 0, none⟩) 1 1]) (results_cell_row Tryz.results35 _ w9 w.heap.size 26 #[.int .i64 0, .int .i64 3, .slice (some ⟨w.heap.size + 1, 0, none⟩) 1 1, .slice (some ⟨w.heap.size + 1 + 1, 0, none⟩) 1 1, .slice (some ⟨w.heap.size + 1 + 1 + 1, 0, none⟩) 1 1] (0, 0) _ rfl H9.heap Tryz.underlying26 rfl ef_size) rfl ⟨_, _, _, rfl, H9.tail⟩
set_option maxRecDepth 100000 in
set_option maxHeartbeats 4000000 in
theorem efawake_any {W w : World} {L : List SL} (H : Sat W w L) :
    Calls Tryz.prog 29 #[] w fun e w' => e = .returned (.bool true) ∧ Sat W w' L := by
  have HS := Lib.hid (fun (w0 : World) (L0 : List SL) (h : Sat W w0 L0) => efsample_any h)
  have HB := Lib.hid (fun (w0 : World) (L0 : List SL) (p : EfAt) (hr : EfRd W L0 smpX p) (h : Sat W w0 L0) => (by have := efBytes_any smpX p smp_ok hr h; rw [smp_bytes] at this; exact this : Calls Tryz.prog 16 #[smpX.v p] w0 fun e w' => ∃ A' c', e = .returned (.tuple #[.slice A' 16 c', .int .i64 0]) ∧ Sat W w' (row 5 zB (.slice A' 16 c') 16 (([0, 3, 1, 1, 98, 1, 1, 99, 1, 100, 1, 1, 98, 0, 1, 50] : List UInt8).map B) :: L0)))
  have HM := Lib.hid (fun (w0 : World) (L0 : List SL) (p : EfAt) (b : Nat) (hr : EfRd W L0 smpX p) (hb : RdL W L0 (some ⟨b, 0, none⟩) (tsC [[99, 50]])) (h : Sat W w0 L0) => (by have := efMeets_any smpX p smp_ok hr (some ⟨b, 0, none⟩) 1 [[99, 50]] (by simp) (by simp) hb h; rw [smp_meets] at this; exact this : Calls Tryz.prog 22 #[smpX.v p, .slice (some ⟨b, 0, none⟩) 1 1] w0 fun e w' => e = .returned (.bool true) ∧ Sat W w' L0))
  go_enter Tryz.func29, Tryz.ntmps29
  go_wp2_with fail
  refine (HS.out _ _ H).mono ?_
  rintro e w2 ⟨b1, b2, b3, rfl, H2⟩
  go_wp2_with fail
  refine (HB.out _ _ _ (smp_rd b1 b2 b3) H2).mono ?_
  rintro e w3 ⟨A3, c3, rfl, H3⟩
  have H4 := H3.alloc (([0, 3, 1, 1, 98, 1, 1, 99, 1, 100, 1, 1, 98, 0, 1, 50] : List UInt8).map B).toArray 5
  have hq := same_any A3 (some ⟨w3.heap.size, 0, none⟩) c3 16 [0, 3, 1, 1, 98, 1, 1, 99, 1, 100, 1, 1, 98, 0, 1, 50] [0, 3, 1, 1, 98, 1, 1, 99, 1, 100, 1, 1, 98, 0, 1, 50] _ H4.swap.rd (RdL.pt _ H4)
  rw [beq_self_eq_true] at hq
  have HQ := Lib.hid (hq)
  clear hq
  go_wp2_with fail
  refine (HQ.out).mono ?_
  rintro e w4 ⟨rfl, rfl⟩
  go_wp2_with fail
  refine (HS.out _ _ H4).mono ?_
  rintro e w5 ⟨b4, b5, b6, rfl, H5⟩
  have H6 := H5.alloc (tsC [[99, 50]]).toArray 9
  go_wp2_with fail
  refine (HM.out _ _ _ w5.heap.size (smp_rd b4 b5 b6).tail RdL.pt H6).mono ?_
  rintro e w6 ⟨rfl, H7⟩
  go_wp2
  go_ret
  exact ⟨rfl, Sat.drops [_, _, _, _, _, _, _, _, _] H7⟩
end Go.Proofs.YtodbmeklbamcfaaGreat
