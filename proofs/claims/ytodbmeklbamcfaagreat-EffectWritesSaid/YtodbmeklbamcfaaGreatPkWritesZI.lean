/- The row WrEffectWrites: for every input the law answers true, and the input reads as it did; ahead of it the texts KlEWrites. -/
import Derived.Test.YtodbmeklbamcfaaGreatPkWritesZG
import Derived.Test.YtodbmeklbamcfaaGreatPkWritesZH
import Derived.Test.YtodbmeklbamcfaaGreatPkWritesZF
import Derived.Deep.RegionHeld3
import Derived.Deep.DeepCutAuto
import Derived.Test.YtodbmeklbamcfaaGreatRows
import Derived.Test.YtodbmeklbamcfaaGreatPkWritesA
import Derived.Test.YtodbmeklbamcfaaGreatPkWritesB
import Derived.Test.YtodbmeklbamcfaaGreatPkWritesC
import Derived.Test.YtodbmeklbamcfaaGreatPkWritesD
import Derived.Test.YtodbmeklbamcfaaGreatPkWritesE
import Derived.Test.YtodbmeklbamcfaaGreatPkWritesF
import Derived.Test.YtodbmeklbamcfaaGreatPkWritesG
import Derived.Test.YtodbmeklbamcfaaGreatPkWritesH
import Derived.Test.YtodbmeklbamcfaaGreatPkWritesI
import Derived.Test.YtodbmeklbamcfaaGreatPkWritesJ
import Derived.Test.YtodbmeklbamcfaaGreatPkWritesK
import Derived.Test.YtodbmeklbamcfaaGreatPkWritesL
import Derived.Test.YtodbmeklbamcfaaGreatPkWritesM
import Derived.Test.YtodbmeklbamcfaaGreatPkWritesN
import Derived.Test.YtodbmeklbamcfaaGreatPkWritesO
import Derived.Test.YtodbmeklbamcfaaGreatPkWritesP
import Derived.Test.YtodbmeklbamcfaaGreatPkWritesQ
import Derived.Test.YtodbmeklbamcfaaGreatPkWritesR
import Derived.Test.YtodbmeklbamcfaaGreatPkWritesS
import Derived.Test.YtodbmeklbamcfaaGreatPkWritesT
import Derived.Test.YtodbmeklbamcfaaGreatPkWritesU
import Derived.Test.YtodbmeklbamcfaaGreatPkWritesV
import Derived.Test.YtodbmeklbamcfaaGreatPkWritesW
import Derived.Test.YtodbmeklbamcfaaGreatPkWritesX
import Derived.Test.YtodbmeklbamcfaaGreatPkWritesY
import Derived.Test.YtodbmeklbamcfaaGreatPkWritesZA
import Derived.Test.YtodbmeklbamcfaaGreatPkWritesZB
import Derived.Test.YtodbmeklbamcfaaGreatPkWritesZC
import Derived.Test.YtodbmeklbamcfaaGreatPkWritesZD
import Derived.Test.YtodbmeklbamcfaaGreatPkWritesZE
/- EffectWrites, whatever comes in. -/
namespace Go.Proofs.YtodbmeklbamcfaaGreat
open Go.RowKit Go.Rt

theorem EfIn.rdW {W : World} {L : List SL} {x : Ef} {p : EfAt} (h : EfIn W x p) : EfRd W L x p := ⟨h.b, h.b', h.b'', RdL.old h.r, RdL.old h.r', RdL.old h.r''⟩

theorem two_effects {W w : World} {x : Ef} {p q : EfAt} {py px : Nat} {L L' : List SL} (Hy : Sat W w (pt py #[.int .i64 x.why, .int .i64 x.steps, .slice q.A x.rs.length q.c, .slice q.A' x.ss.length q.c', .slice q.A'' x.ws.length q.c''] 26 :: L)) (Hx : Sat W w (pt px #[.int .i64 x.why, .int .i64 x.steps, .slice p.A x.rs.length p.c, .slice p.A' x.ss.length p.c', .slice p.A'' x.ws.length p.c''] 26 :: L')) :
    w.cell? ⟨py, 0, none⟩ = some (.int .i64 x.why) ∧ w.cell? ⟨py, 1, none⟩ = some (.int .i64 x.steps) ∧ w.cell? ⟨py, 2, none⟩ = some (.slice q.A x.rs.length q.c) ∧ w.cell? ⟨py, 3, none⟩ = some (.slice q.A' x.ss.length q.c') ∧ w.cell? ⟨py, 4, none⟩ = some (.slice q.A'' x.ws.length q.c'') ∧ w.cell? ⟨px, 0, none⟩ = some (.int .i64 x.why) ∧ w.cell? ⟨px, 1, none⟩ = some (.int .i64 x.steps) ∧ w.cell? ⟨px, 2, none⟩ = some (.slice p.A x.rs.length p.c) ∧ w.cell? ⟨px, 3, none⟩ = some (.slice p.A' x.ss.length p.c') ∧ w.cell? ⟨px, 4, none⟩ = some (.slice p.A'' x.ws.length p.c'') :=
  ⟨Hy.cell 0, Hy.cell 1, Hy.cell 2, Hy.cell 3, Hy.cell 4, Hx.cell 0, Hx.cell 1, Hx.cell 2, Hx.cell 3, Hx.cell 4⟩
set_option maxRecDepth 100000 in
set_option maxHeartbeats 16000000 in
theorem lawEffectWrites_any {W : World} (x : Ef) (p : EfAt) (hI : EfIn W x p) (A : Option Addr) (c : Nat) (l : List Str) (hA : Bsl A l.length c) (hrl : Rd W A (tsC l)) :
    Calls Tryz.prog 3 #[x.v p, .slice A l.length c] W fun e w' => e = .returned (.bool true) ∧ Sat W w' [] := by
  have hr := fun (L : List SL) => hI.rdW (L := L)
  have hrl' := fun (L : List SL) => RdL.old (l := L) hrl
  have hlm := Nat.le_trans hA.le hA.max
  have hv : x.v p = .agg #[.int .i64 x.why, .int .i64 x.steps, .slice p.A x.rs.length p.c, .slice p.A' x.ss.length p.c', .slice p.A'' x.ws.length p.c''] := rfl
  have HLX := Lib.hid (fun (w0 : World) (L0 : List SL) (h : Sat W w0 L0) => (show Calls Tryz.prog 13 #[.agg #[.int .i64 x.why, .int .i64 x.steps, .slice p.A x.rs.length p.c, .slice p.A' x.ss.length p.c', .slice p.A'' x.ws.length p.c''], .int .i64 70] w0 fun e w' => e = .returned (.bool (longX x 70)) ∧ Sat W w' L0 from LongEffect_any x p (hr L0) h))
  have HLK := Lib.hid (fun (w0 : World) (L0 : List SL) (h : Sat W w0 L0) => LongKeys_any A c l 70 (by omega) hlm (hrl' L0 _ h))
  have H1 := (Sat.start W).alloc #[.int .i64 x.why, .int .i64 x.steps, .slice p.A x.rs.length p.c, .slice p.A' x.ss.length p.c', .slice p.A'' x.ws.length p.c''] 26
  have i0 := H1.cell 0
  have i1 := H1.cell 1
  have i2 := H1.cell 2
  have i3 := H1.cell 3
  have i4 := H1.cell 4
  rw [hv]
  by_cases hq : longX x 70 = true ∨ longK l 70 = true
  · have hqq : (longX x 70 = true) ∨ (longX x 70 = false ∧ longK l 70 = true) := by
      cases h1 : longX x 70
      · rw [h1] at hq; simp at hq; exact .inr ⟨rfl, hq⟩
      · exact .inl rfl
    generalize longX x 70 = q1 at *
    generalize longK l 70 = q2 at *
    clear hq hr hrl hrl' hI hv hA
    go_enter Tryz.func3, Tryz.ntmps3
    go_wp2_with fail
    refine (HLX.out _ _ H1).mono ?_
    rintro e w3 ⟨rfl, H3⟩
    rcases hqq with rfl | ⟨rfl, rfl⟩
    · go_wp2
      go_ret
      exact ⟨rfl, H3.tail⟩
    · go_wp2_with fail
      refine (HLK.out _ _ H3).mono ?_
      rintro e w4 ⟨rfl, rfl⟩
      go_wp2
      go_ret
      exact ⟨rfl, H3.tail⟩
  · have h1 : longX x 70 = false := by cases h : longX x 70 <;> simp_all
    have h2 : longK l 70 = false := by cases h : longK l 70 <;> simp_all
    have hx := longX_ok h1
    have hll := (longK_no h2).1
    have hlt : ∀ t ∈ l, t.length ≤ 1000000 := fun t ht => by have := (longK_no h2).2 t ht; omega
    have hkt : ∀ t ∈ x.keys, t.length ≤ 1000000 := fun t ht => by
      obtain ⟨w, hw, rfl⟩ := List.mem_map.1 ht
      exact (hx.wt w hw).1
    have hkl : x.keys.length ≤ 100000 := by show (x.ws.map Wt.k).length ≤ _; rw [List.length_map]; exact hx.ws
    rw [h1] at HLX
    rw [h2] at HLK
    have HW := Lib.hid (fun (w0 : World) (L0 : List SL) (h : Sat W w0 L0) => efawake_any h)
    have HCP := Lib.hid (fun (w0 : World) (L0 : List SL) (h : Sat W w0 L0) => (show Calls Tryz.prog 15 #[.agg #[.int .i64 x.why, .int .i64 x.steps, .slice p.A x.rs.length p.c, .slice p.A' x.ss.length p.c', .slice p.A'' x.ws.length p.c'']] w0 fun e w' => ∃ q : EfAt, e = .returned (.agg #[.int .i64 x.why, .int .i64 x.steps, .slice q.A x.rs.length q.c, .slice q.A' x.ss.length q.c', .slice q.A'' x.ws.length q.c'']) ∧ Sat W w' (efL x q L0) from CopyEffect_any x p hx (hr L0) h))
    have HB := Lib.hid (fun (w0 : World) (L0 : List SL) (q : EfAt) (hr : EfRd W L0 x q) (h : Sat W w0 L0) => (show Calls Tryz.prog 16 #[.agg #[.int .i64 x.why, .int .i64 x.steps, .slice q.A x.rs.length q.c, .slice q.A' x.ss.length q.c', .slice q.A'' x.ws.length q.c'']] w0 fun e w' => ∃ A' c', e = .returned (.tuple #[.slice A' (bytesE x).1.length c', .int .i64 (bytesE x).2]) ∧ Sat W w' (row 5 zB (.slice A' (bytesE x).1.length c') (bytesE x).1.length ((bytesE x).1.map B) :: L0) from efBytes_any x q hx hr h))
    have HC := Lib.hid (fun (w0 : World) (L0 : List SL) (h : Sat W w0 L0) => (show Calls Tryz.prog 17 #[.agg #[.int .i64 x.why, .int .i64 x.steps, .slice p.A x.rs.length p.c, .slice p.A' x.ss.length p.c', .slice p.A'' x.ws.length p.c'']] w0 fun e w' => ∃ A' c', e = .returned (.tuple #[.slice A' (bytesE x).1.length c', .int .i64 (bytesE x).2]) ∧ Sat W w' (row 5 zB (.slice A' (bytesE x).1.length c') (bytesE x).1.length ((bytesE x).1.map B) :: L0) from rfBytes_any x p hx (hr L0) h))
    have HK := Lib.hid (fun (w0 : World) (L0 : List SL) (q : EfAt) (hr : EfRd W L0 x q) (h : Sat W w0 L0) => (show Calls Tryz.prog 18 #[.agg #[.int .i64 x.why, .int .i64 x.steps, .slice q.A x.rs.length q.c, .slice q.A' x.ss.length q.c', .slice q.A'' x.ws.length q.c'']] w0 fun e w' => ∃ A' c', e = .returned (.slice A' x.keys.length c') ∧ Sat W w' (seenS 9 (.slice A' x.keys.length c') x.keys.length (tsC x.keys) :: L0) from efKeys_any x q hx hr h))
    have HKX := Lib.hid (fun (w0 : World) (L0 : List SL) (h : Sat W w0 L0) => (show Calls Tryz.prog 21 #[.agg #[.int .i64 x.why, .int .i64 x.steps, .slice p.A x.rs.length p.c, .slice p.A' x.ss.length p.c', .slice p.A'' x.ws.length p.c'']] w0 fun e w' => ∃ A' c', e = .returned (.slice A' x.keys.length c') ∧ Sat W w' (seenS 9 (.slice A' x.keys.length c') x.keys.length (tsC x.keys) :: L0) from rfKeys_any x p hx (hr L0) h))
    have HM := Lib.hid (fun (w0 : World) (L0 : List SL) (q : EfAt) (hr : EfRd W L0 x q) (h : Sat W w0 L0) => (show Calls Tryz.prog 22 #[.agg #[.int .i64 x.why, .int .i64 x.steps, .slice q.A x.rs.length q.c, .slice q.A' x.ss.length q.c', .slice q.A'' x.ws.length q.c''], .slice A l.length c] w0 fun e w' => e = .returned (.bool (meetsX x l)) ∧ Sat W w' L0 from efMeets_any x q hx hr A c l (by omega) hlt (hrl' _) h))
    have HMX := Lib.hid (fun (w0 : World) (L0 : List SL) (h : Sat W w0 L0) => (show Calls Tryz.prog 23 #[.agg #[.int .i64 x.why, .int .i64 x.steps, .slice p.A x.rs.length p.c, .slice p.A' x.ss.length p.c', .slice p.A'' x.ws.length p.c''], .slice A l.length c] w0 fun e w' => e = .returned (.bool (meetsX x l)) ∧ Sat W w' L0 from rfMeets_any x p hx (hr L0) A c l (by omega) (hrl' _) h))
    have HS := Lib.hid (fun (w0 : World) (L0 : List SL) (q : EfAt) (hq : EfRd W L0 x q) (h : Sat W w0 L0) => (show Calls Tryz.prog 26 #[.agg #[.int .i64 x.why, .int .i64 x.steps, .slice q.A x.rs.length q.c, .slice q.A' x.ss.length q.c', .slice q.A'' x.ws.length q.c''], .agg #[.int .i64 x.why, .int .i64 x.steps, .slice p.A x.rs.length p.c, .slice p.A' x.ss.length p.c', .slice p.A'' x.ws.length p.c'']] w0 fun e w' => e = .returned (.bool true) ∧ Sat W w' L0 from (by have := SameEffect_any x x q p hx hq (hr L0) h; rw [decide_eq_true rfl] at this; exact this)))
    have HE := Lib.hid (fun (w0 : World) (L0 : List SL) (h : Sat W w0 L0) => (show Calls Tryz.prog 27 #[.agg #[.int .i64 x.why, .int .i64 x.steps, .slice p.A x.rs.length p.c, .slice p.A' x.ss.length p.c', .slice p.A'' x.ws.length p.c'']] w0 fun e w' => e = .returned (.int .i64 (checkX x)) ∧ Sat W w' L0 from efChk_any x p hx (hr L0) h))
    have HEX := Lib.hid (fun (w0 : World) (L0 : List SL) (h : Sat W w0 L0) => (show Calls Tryz.prog 28 #[.agg #[.int .i64 x.why, .int .i64 x.steps, .slice p.A x.rs.length p.c, .slice p.A' x.ss.length p.c', .slice p.A'' x.ws.length p.c'']] w0 fun e w' => e = .returned (.int .i64 (checkX x)) ∧ Sat W w' L0 from rfChk_any x p hx (hr L0) h))
    generalize bytesE x = be at *
    generalize x.keys = ks at *
    generalize meetsX x l = M at *
    generalize checkX x = ck at *
    have hst : ∀ (w0 : World) (L0 : List SL) (A1 A2 : Option Addr) (c1 c2 : Nat), RdL W L0 A1 (tsC ks) → RdL W L0 A2 (tsC ks) → Sat W w0 L0 → Calls Tryz.prog 20 #[.slice A1 ks.length c1, .slice A2 ks.length c2] w0 fun e w' => e = .returned (.bool true) ∧ Sat W w' L0 := fun w0 L0 A1 A2 c1 c2 h1 h2 h => by
      have := SameTexts_any A1 A2 c1 c2 ks ks (by unfold maxLen; omega) (h1 _ h) (h2 _ h)
      rw [decide_eq_true rfl] at this
      exact this.mono fun e w' ⟨he, hb⟩ => ⟨he, h.below hb⟩
    have HST := Lib.hid (hst)
    have hsb : ∀ (w0 : World) (L0 : List SL) (A1 A2 : Option Addr) (c1 c2 : Nat), RdL W L0 A1 (be.1.map B) → RdL W L0 A2 (be.1.map B) → Sat W w0 L0 → Calls Tryz.prog 19 #[.slice A1 be.1.length c1, .slice A2 be.1.length c2] w0 fun e w' => e = .returned (.bool true) ∧ w0 = w' := fun w0 L0 A1 A2 c1 c2 h1 h2 h => by
      have := same_any A1 A2 c1 c2 be.1 be.1 w0 (h1 _ h) (h2 _ h)
      rwa [beq_self_eq_true] at this
    have HSB := Lib.hid (hsb)
    have HKT := Lib.hid (hkt)
    clear hsb hst hkt hlt hll hx h1 h2 hq hr hrl hrl' hI hv hA hkl
    obtain ⟨bs, be2⟩ := be
    dsimp only at *
    go_enter Tryz.func3, Tryz.ntmps3
    go_wp2_with fail
    refine (HLX.out _ _ H1).mono ?_
    rintro e w3 ⟨rfl, H3⟩
    go_wp2_with fail
    refine (HLK.out _ _ H3).mono ?_
    rintro e w4 ⟨rfl, rfl⟩
    clear i0 i1 i2 i3 i4
    have i0 := H3.cell 0
    have i1 := H3.cell 1
    have i2 := H3.cell 2
    have i3 := H3.cell 3
    have i4 := H3.cell 4
    go_wp2_with fail
    refine (HCP.out _ _ H3).mono ?_
    rintro e w5 ⟨q, rfl, H5⟩
    clear i0 i1 i2 i3 i4 HCP HLX HLK H1 H3
    have HQ := Lib.hid (efL_rd H5)
    have H6 := H5.alloc #[.int .i64 x.why, .int .i64 x.steps, .slice q.A x.rs.length q.c, .slice q.A' x.ss.length q.c', .slice q.A'' x.ws.length q.c''] 26
    have i0 := H6.cell 0
    have i1 := H6.cell 1
    have i2 := H6.cell 2
    have i3 := H6.cell 3
    have i4 := H6.cell 4
    go_wp2_with fail
    refine (HB.out _ _ q HQ.out.tail H6).mono ?_
    rintro e w7 ⟨A7, c7, rfl, H7⟩
    clear i0 i1 i2 i3 i4 HB
    have i0 := (H7.pull 5).cell 0
    have i1 := (H7.pull 5).cell 1
    have i2 := (H7.pull 5).cell 2
    have i3 := (H7.pull 5).cell 3
    have i4 := (H7.pull 5).cell 4
    go_wp2_with fail
    refine (HC.out _ _ H7).mono ?_
    rintro e w8 ⟨A8, c8, rfl, H8⟩
    clear i0 i1 i2 i3 i4 HC
    have i0 := (H8.pull 2).cell 0
    have i1 := (H8.pull 2).cell 1
    have i2 := (H8.pull 2).cell 2
    have i3 := (H8.pull 2).cell 3
    have i4 := (H8.pull 2).cell 4
    go_wp2_with fail
    refine (HK.out _ _ q HQ.out.tail.tail.tail H8).mono ?_
    rintro e w9 ⟨A9, c9, rfl, H9⟩
    clear i0 i1 i2 i3 i4 HK H5 H6 H7 H8
    generalize w5.heap.size = py at *
    go_upto_region 7 with fail
    go_cut [11] (fun v wx => v = .bool true ∧ Sat W wx (seenS 9 (.slice A9 ks.length c9) ks.length (tsC ks) :: row 5 zB (.slice A8 bs.length c8) bs.length (bs.map B) :: row 5 zB (.slice A7 bs.length c7) bs.length (bs.map B) :: pt py #[.int .i64 x.why, .int .i64 x.steps, .slice q.A x.rs.length q.c, .slice q.A' x.ss.length q.c', .slice q.A'' x.ws.length q.c''] 26 :: efL x q (pt W.heap.size #[.int .i64 x.why, .int .i64 x.steps, .slice p.A x.rs.length p.c, .slice p.A' x.ss.length p.c', .slice p.A'' x.ws.length p.c''] 26 :: [])))
    case first =>
      have H10 := H9.drew
      have hS0 := two_effects (H10.pull 3) (H10.pull 7)
      clear HW HS HE HEX HKT
      go_region_held3 (fun w' => w'.cell? ⟨py, 0, none⟩ = some (.int .i64 x.why) ∧ w'.cell? ⟨py, 1, none⟩ = some (.int .i64 x.steps) ∧ w'.cell? ⟨py, 2, none⟩ = some (.slice q.A x.rs.length q.c) ∧ w'.cell? ⟨py, 3, none⟩ = some (.slice q.A' x.ss.length q.c') ∧ w'.cell? ⟨py, 4, none⟩ = some (.slice q.A'' x.ws.length q.c'') ∧ w'.cell? ⟨W.heap.size, 0, none⟩ = some (.int .i64 x.why) ∧ w'.cell? ⟨W.heap.size, 1, none⟩ = some (.int .i64 x.steps) ∧ w'.cell? ⟨W.heap.size, 2, none⟩ = some (.slice p.A x.rs.length p.c) ∧ w'.cell? ⟨W.heap.size, 3, none⟩ = some (.slice p.A' x.ss.length p.c') ∧ w'.cell? ⟨W.heap.size, 4, none⟩ = some (.slice p.A'' x.ws.length p.c'')) (assumption) (first
        | (go_at_call 19; refine (HSB.out _ _ A7 A8 c7 c8 (RdL.tail (RdL.tail RdL.row)) (RdL.tail RdL.row) H10).mono ?_; rintro e w10 ⟨rfl, rfl⟩)
        | (go_at_call 21; refine (HKX.out _ _ H10).mono ?_; rintro e w11 ⟨A11, c11, rfl, H11⟩
           have hS1 := two_effects (H11.pull 4) (H11.pull 8))
        | (go_at_call 20; refine (HST.out _ _ A9 A11 c9 c11 (RdL.tail RdL.newS) RdL.newS H11).mono ?_; rintro e w12 ⟨rfl, H12⟩
           have hS2 := two_effects (H12.pull 4) (H12.pull 8))
        | (go_at_call 22; refine (HM.out _ _ q HQ.out.tail.tail.tail.tail.tail H13).mono ?_; rintro e w14 ⟨rfl, H14⟩
           have hS4 := two_effects (H14.pull 4) (H14.pull 8))
        | (go_at_call 23; refine (HMX.out _ _ H13).mono ?_; rintro e w14 ⟨rfl, H14⟩
           have hS4 := two_effects (H14.pull 4) (H14.pull 8))
        | (go_at_call 22; refine (HM.out _ _ q HQ.out.tail.tail.tail.tail.tail H12).mono ?_; rintro e w13 ⟨rfl, H13⟩
           have hS3 := two_effects (H13.pull 4) (H13.pull 8))
        | (go_at_call 23; refine (HMX.out _ _ H12).mono ?_; rintro e w13 ⟨rfl, H13⟩
           have hS3 := two_effects (H13.pull 4) (H13.pull 8)))
      all_goals
        go_wp2_with fail
        go_meet
        exact ⟨by simp, H14.tail⟩
    case rest =>
      obtain ⟨rfl, H20⟩ := hcut
      clear H9
      have HO1 := Lib.hid (over_any A7 c7 bs (H20.pull 2))
      go_wp2_with fail
      refine (HO1.out).mono ?_
      rintro e w21 ⟨rfl, ys, H21⟩
      have HO2 := Lib.hid (OverTexts_any A9 c9 ks HKT.out (H21.pull 1))
      go_wp2_with fail
      refine (HO2.out).mono ?_
      rintro e w22 ⟨rfl, H22⟩
      have H23 := H22.drew
      have hS0 := two_effects (H23.pull 2) (H23.pull 6)
      clear HO1 HO2 H20 H21 HST HSB HKT HKX HM HMX
      go_upto_region 10 with fail
      go_region_held3 (fun w' => w'.cell? ⟨py, 0, none⟩ = some (.int .i64 x.why) ∧ w'.cell? ⟨py, 1, none⟩ = some (.int .i64 x.steps) ∧ w'.cell? ⟨py, 2, none⟩ = some (.slice q.A x.rs.length q.c) ∧ w'.cell? ⟨py, 3, none⟩ = some (.slice q.A' x.ss.length q.c') ∧ w'.cell? ⟨py, 4, none⟩ = some (.slice q.A'' x.ws.length q.c'') ∧ w'.cell? ⟨W.heap.size, 0, none⟩ = some (.int .i64 x.why) ∧ w'.cell? ⟨W.heap.size, 1, none⟩ = some (.int .i64 x.steps) ∧ w'.cell? ⟨W.heap.size, 2, none⟩ = some (.slice p.A x.rs.length p.c) ∧ w'.cell? ⟨W.heap.size, 3, none⟩ = some (.slice p.A' x.ss.length p.c') ∧ w'.cell? ⟨W.heap.size, 4, none⟩ = some (.slice p.A'' x.ws.length p.c'')) (assumption) (first
        | (go_at_call 26; refine (HS.out _ _ q HQ.out.tail.tail.tail H23).mono ?_; rintro e w24 ⟨rfl, H24⟩
           have hS1 := two_effects (H24.pull 2) (H24.pull 6))
        | (go_at_call 29; refine (HW.out _ _ H26).mono ?_; rintro e w27 ⟨rfl, H27⟩
           have hS4 := two_effects (H27.pull 2) (H27.pull 6))
        | (go_at_call 27; refine (HE.out _ _ H25).mono ?_; rintro e w26 ⟨rfl, H26⟩
           have hS3 := two_effects (H26.pull 2) (H26.pull 6))
        | (go_at_call 28; refine (HEX.out _ _ H25).mono ?_; rintro e w26 ⟨rfl, H26⟩
           have hS3 := two_effects (H26.pull 2) (H26.pull 6))
        | (go_at_call 27; refine (HE.out _ _ H24).mono ?_; rintro e w25 ⟨rfl, H25⟩
           have hS2 := two_effects (H25.pull 2) (H25.pull 6))
        | (go_at_call 28; refine (HEX.out _ _ H24).mono ?_; rintro e w25 ⟨rfl, H25⟩
           have hS2 := two_effects (H25.pull 2) (H25.pull 6)))
      all_goals
        go_wp2
        go_ret
        exact ⟨rfl, Sat.drops [_, _, _, _, _, _, _] H27⟩
end Go.Proofs.YtodbmeklbamcfaaGreat

/- The row of EffectWrites: for every input it answers true, and the input reads as it did. -/
namespace Go.Proofs.YtodbmeklbamcfaaGreat
open Go.ChangeShapes Go.WideShapes Go.ChangeMaps Go.RowKit Go.Rt

theorem effectWrites_own : ownKnob Tryz.prog.godebug = none := by kernel_rfl
theorem effectWrites_laid : laidOutB Tryz.prog = true := by kernel_rfl

set_option maxRecDepth 100000 in
theorem effectWrites_lifted (os : Os) (started : os.Started) (H : Type) (enc : TypeId × Value → H) :
    ReturnsInHanded {} Tryz.checked os 3 .any (Rows.effectWritesSpec.pre6 enc Tryz.prog Tryz.f3 Rows.effectWritesRow.domain false) (Rows.effectWritesSpec.post enc Tryz.prog Tryz.f3 false true false false) := by
  refine returnsInHanded_of_change (C := Tryz.checked) effectWrites_own started (by kernel_rfl) Tryz.func3
    (ChangeSpec.witness6 (enc := enc) (C := Tryz.checked) false ⟨#[], #[.agg #[.int .i64 0, .int .i64 0, .slice none 0 0, .slice none 0 0, .slice none 0 0], .slice none 0 0], []⟩ 8 (by kernel_rfl) (by kernel_rfl) (by kernel_rfl) (by kernel_rfl)) ?_
  intro W base args ds gs before hval0 hW _ _
  have hval : ∀ (j : Nat) t v, Tryz.f3.params[j]? = some t → args[j]? = some v → Value.okWide Tryz.prog W .any base t v := hval0
  have hW' := hW
  obtain ⟨p, q, hA0, hV, rfl, _, _⟩ := hW
  have hA : DataW.TrodAll enc Tryz.prog W 0 (fun _ => true) true Tryz.f3.params.toList args.toList ds p := hA0
  rw [Tryz.params3] at hA hval
  obtain ⟨rfl, rfl⟩ := trodVars_none hV
  obtain ⟨v0, v1, d0, d1, p0, p1, rfl, rfl, rfl, h0, h1⟩ := trodAll_two hA
  obtain ⟨f0, hf0⟩ := h0
  obtain ⟨x0, P0, I0, hv0⟩ := ef_of_trod hf0
  replace hv0 := agg_of_cells hv0 (by simp [Ef.cs])
  obtain ⟨a1, l1, c1, rfl⟩ := okWide_slice Tryz.underlying22 (hval 1 22 v1 rfl rfl)
  obtain ⟨f1, hf1⟩ := h1
  obtain ⟨A1, k1, x1, hv1, hc1, hq1, hr1⟩ := open_texts hf1
  rw [hv0, hv1] at hW' ⊢
  refine (lawEffectWrites_any x0 P0 I0 A1 k1 x1 hc1 hr1).mono fun e W' ⟨he, hw⟩ => ?_
  subst he
  exact ⟨_, rfl, post_law (tB := 4) hW' rfl rfl (by kernel_rfl) Tryz.underlying4 effectWrites_laid (by rw [Tryz.params3]; decide +kernel) hw.bel⟩

theorem effectWrites_holds : Rows.EffectWritesSaid :=
  OpenClaim.holds_of_wide 3 Tryz.f3 rfl rfl rfl rfl rfl rfl rfl ⟨rfl, rfl, rfl, rfl, rfl⟩ rfl rfl rfl rfl rfl (by kernel_rfl) Tryz.func3 (by kernel_rfl)
    (of_decide_eq_true (by kernel_rfl)) (by unfold Func.isWrapper; rw [if_neg (of_decide_eq_false (by kernel_rfl))]; exact ⟨rfl, rfl⟩)
    (fun os started H enc _ => effectWrites_lifted os started H enc)
#print axioms effectWrites_holds
end Go.Proofs.YtodbmeklbamcfaaGreat
