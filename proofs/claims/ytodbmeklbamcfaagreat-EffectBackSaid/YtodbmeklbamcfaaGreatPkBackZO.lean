/- The row WrEffectBack: for every input the law answers true, and the input reads as it did; ahead of it the texts KlEBack. -/
import Derived.Test.YtodbmeklbamcfaaGreatPkBackZN
import Derived.Test.YtodbmeklbamcfaaGreatPkBackZL
import Derived.Test.YtodbmeklbamcfaaGreatPkBackZM
import Derived.Test.YtodbmeklbamcfaaGreatPkBackZJ
import Derived.Test.YtodbmeklbamcfaaGreatRows
import Derived.Test.YtodbmeklbamcfaaGreatPkBackV
import Derived.Test.YtodbmeklbamcfaaGreatPkBackA
import Derived.Test.YtodbmeklbamcfaaGreatPkBackB
import Derived.Test.YtodbmeklbamcfaaGreatPkBackC
import Derived.Test.YtodbmeklbamcfaaGreatPkBackD
import Derived.Test.YtodbmeklbamcfaaGreatPkBackE
import Derived.Test.YtodbmeklbamcfaaGreatPkBackF
import Derived.Test.YtodbmeklbamcfaaGreatPkBackG
import Derived.Test.YtodbmeklbamcfaaGreatPkBackH
import Derived.Test.YtodbmeklbamcfaaGreatPkBackI
import Derived.Test.YtodbmeklbamcfaaGreatPkBackJ
import Derived.Test.YtodbmeklbamcfaaGreatPkBackK
import Derived.Test.YtodbmeklbamcfaaGreatPkBackL
import Derived.Test.YtodbmeklbamcfaaGreatPkBackM
import Derived.Test.YtodbmeklbamcfaaGreatPkBackN
import Derived.Test.YtodbmeklbamcfaaGreatPkBackO
import Derived.Test.YtodbmeklbamcfaaGreatPkBackP
import Derived.Test.YtodbmeklbamcfaaGreatPkBackQ
import Derived.Test.YtodbmeklbamcfaaGreatPkBackR
import Derived.Test.YtodbmeklbamcfaaGreatPkBackS
import Derived.Test.YtodbmeklbamcfaaGreatPkBackT
import Derived.Test.YtodbmeklbamcfaaGreatPkBackU
import Derived.Test.YtodbmeklbamcfaaGreatPkBackW
import Derived.Test.YtodbmeklbamcfaaGreatPkBackX
import Derived.Test.YtodbmeklbamcfaaGreatPkBackY
import Derived.Test.YtodbmeklbamcfaaGreatPkBackZA
import Derived.Test.YtodbmeklbamcfaaGreatPkBackZB
import Derived.Test.YtodbmeklbamcfaaGreatPkBackZC
import Derived.Test.YtodbmeklbamcfaaGreatPkBackZD
import Derived.Test.YtodbmeklbamcfaaGreatPkBackZE
import Derived.Test.YtodbmeklbamcfaaGreatPkBackZF
import Derived.Test.YtodbmeklbamcfaaGreatPkBackZG
import Derived.Test.YtodbmeklbamcfaaGreatPkBackZH
import Derived.Test.YtodbmeklbamcfaaGreatPkBackZI
import Derived.Test.YtodbmeklbamcfaaGreatPkBackZK
/- EffectBack answers true. -/
namespace Go.Proofs.YtodbmeklbamcfaaGreat
open Go.RowKit Go.Rt

theorem EfIn.rdW {W : World} {L : List SL} {x : Ef} {p : EfAt} (h : EfIn W x p) : EfRd W L x p := ⟨h.b, h.b', h.b'', RdL.old h.r, RdL.old h.r', RdL.old h.r''⟩
theorem no_rd {W : World} {L : List SL} : EfRd W L noE ⟨none, 0, none, 0, none, 0⟩ :=
  have h : Bsl none 0 0 := ⟨Nat.le_refl _, fun _ => rfl, by unfold maxLen; omega⟩
  have r : ∀ (l : List Value), l = [] → RdL W L none l := fun l e w' _ j u hu => by subst e; simp at hu
  ⟨h, h, h, r _ rfl, r _ rfl, r _ rfl⟩
set_option maxRecDepth 100000 in
set_option maxHeartbeats 16000000 in
theorem lawEffectBack_any {W : World} (x : Ef) (p : EfAt) (hI : EfIn W x p) (A : Option Addr) (c : Nat) (bs : List UInt8) (hr0 : Rd W A (bs.map B)) :
    Calls Tryz.prog 5 #[x.v p, .slice A bs.length c] W fun e w' => e = .returned (.bool true) ∧ Sat W w' [] := by
  have hr := fun (L : List SL) => hI.rdW (L := L)
  have hv : x.v p = .agg #[.int .i64 x.why, .int .i64 x.steps, .slice p.A x.rs.length p.c, .slice p.A' x.ss.length p.c', .slice p.A'' x.ws.length p.c''] := rfl
  have HLX := Lib.hid (fun (w0 : World) (L0 : List SL) (h : Sat W w0 L0) => (show Calls Tryz.prog 13 #[.agg #[.int .i64 x.why, .int .i64 x.steps, .slice p.A x.rs.length p.c, .slice p.A' x.ss.length p.c', .slice p.A'' x.ws.length p.c''], .int .i64 70] w0 fun e w' => e = .returned (.bool (longX x 70)) ∧ Sat W w' L0 from LongEffect_any x p (hr L0) h))
  have HW := Lib.hid (fun (w0 : World) (L0 : List SL) (h : Sat W w0 L0) => efawake_any h)
  have H1 := (Sat.start W).alloc #[.int .i64 x.why, .int .i64 x.steps, .slice p.A x.rs.length p.c, .slice p.A' x.ss.length p.c', .slice p.A'' x.ws.length p.c''] 26
  rw [hv]
  clear hv
  by_cases hq : longX x 70 = true
  · rw [hq] at HLX
    clear hq
    go_enter Tryz.func5, Tryz.ntmps5
    go_wp2_with fail
    refine (HW.out _ _ H1).mono ?_
    rintro e w1 ⟨rfl, H2⟩
    have i0 := (H2).cell 0
    have i1 := (H2).cell 1
    have i2 := (H2).cell 2
    have i3 := (H2).cell 3
    have i4 := (H2).cell 4
    go_wp2_with fail
    refine (HLX.out _ _ H2).mono ?_
    rintro e w2 ⟨rfl, H3⟩
    clear i0 i1 i2 i3 i4
    clear H1 H2
    go_wp2
    go_ret
    exact ⟨rfl, H3.tail⟩
  · have hq : longX x 70 = false := by simpa using hq
    have hok := longX_ok hq
    rw [hq] at HLX
    clear hq
    by_cases hbig : 2000 < bs.length
    · have g0 : decide ((2000 : Int) < (bs.length : Int)) = true := decide_eq_true (by omega)
      clear hbig
      go_enter Tryz.func5, Tryz.ntmps5
      go_wp2_with fail
      refine (HW.out _ _ H1).mono ?_
      rintro e w1 ⟨rfl, H2⟩
      have i0 := (H2).cell 0
      have i1 := (H2).cell 1
      have i2 := (H2).cell 2
      have i3 := (H2).cell 3
      have i4 := (H2).cell 4
      go_wp2_with fail
      refine (HLX.out _ _ H2).mono ?_
      rintro e w2 ⟨rfl, H3⟩
      clear i0 i1 i2 i3 i4
      clear H1 H2
      go_wp2
      go_ret
      exact ⟨rfl, H3.tail⟩
    · have g0 : decide ((2000 : Int) < (bs.length : Int)) = false := decide_eq_false (by omega)
      have hb : bs.length ≤ 2000 := by omega
      clear hbig
      have HB := Lib.hid (fun (w0 : World) (L0 : List SL) (hr : EfRd W L0 x p) (h : Sat W w0 L0) => (show Calls Tryz.prog 16 #[.agg #[.int .i64 x.why, .int .i64 x.steps, .slice p.A x.rs.length p.c, .slice p.A' x.ss.length p.c', .slice p.A'' x.ws.length p.c'']] w0 fun e w' => ∃ A' c', e = .returned (.tuple #[.slice A' (bytesE x).1.length c', .int .i64 (bytesE x).2]) ∧ Sat W w' (row 5 zB (.slice A' (bytesE x).1.length c') (bytesE x).1.length ((bytesE x).1.map B) :: L0) from efBytes_any x p hok hr h))
      have HE := Lib.hid (fun (w0 : World) (L0 : List SL) (h : Sat W w0 L0) => (show Calls Tryz.prog 27 #[.agg #[.int .i64 x.why, .int .i64 x.steps, .slice p.A x.rs.length p.c, .slice p.A' x.ss.length p.c', .slice p.A'' x.ws.length p.c'']] w0 fun e w' => e = .returned (.int .i64 (checkX x)) ∧ Sat W w' L0 from efChk_any x p hok (hr L0) h))
      have HS := Lib.hid (fun (w0 : World) (L0 : List SL) (y z : Ef) (q q' : EfAt) (hy : EfOk y) (h1 : EfRd W L0 y q) (h2 : EfRd W L0 z q') (h : Sat W w0 L0) => (show Calls Tryz.prog 26 #[.agg #[.int .i64 y.why, .int .i64 y.steps, .slice q.A y.rs.length q.c, .slice q.A' y.ss.length q.c', .slice q.A'' y.ws.length q.c''], .agg #[.int .i64 z.why, .int .i64 z.steps, .slice q'.A z.rs.length q'.c, .slice q'.A' z.ss.length q'.c', .slice q'.A'' z.ws.length q'.c'']] w0 fun e w' => e = .returned (.bool (decide (y = z))) ∧ Sat W w' L0 from SameEffect_any y z q q' hy h1 h2 h))
      have K1 := fun (w0 : World) (L0 : List SL) (h : Sat W w0 L0) => efRead_any A c bs (RdL.old hr0) (by omega) h
      have hzk := readE_fit bs (by omega)
      have hpt := readE_parts bs
      have hsb : ∀ (w0 : World) (L0 : List SL) (A1 : Option Addr) (c1 : Nat), RdL W L0 A1 (bs.map B) → Sat W w0 L0 → Calls Tryz.prog 19 #[.slice A1 bs.length c1, .slice A bs.length c] w0 fun e w' => e = .returned (.bool true) ∧ w0 = w' := fun w0 L0 A1 c1 h1 h => by
        have := same_any A1 A c1 c bs bs w0 (h1 _ h) (RdL.old hr0 _ h)
        rwa [beq_self_eq_true] at this
      have HSB := Lib.hid (hsb)
      obtain ⟨⟨Z, fe, fa⟩, hR⟩ : ∃ R, readE bs = R := ⟨_, rfl⟩
      simp only [hR] at K1 hzk hpt
      have K2 : ∀ (w0 : World) (L0 : List SL), Sat W w0 L0 → Calls Tryz.prog 31 #[.slice A bs.length c] w0 fun e w' => ∃ q : EfAt, e = .returned (.tuple #[.agg #[.int .i64 Z.why, .int .i64 Z.steps, .slice q.A Z.rs.length q.c, .slice q.A' Z.ss.length q.c', .slice q.A'' Z.ws.length q.c''], .agg #[.int .i64 fe, .int .i64 fa]]) ∧ Sat W w' (efN Z q L0) := K1
      have HRB := Lib.hid (K2)
      have HEZ := Lib.hid (fun (w0 : World) (L0 : List SL) (q : EfAt) (hq : EfRd W L0 Z q) (h : Sat W w0 L0) => (show Calls Tryz.prog 27 #[.agg #[.int .i64 Z.why, .int .i64 Z.steps, .slice q.A Z.rs.length q.c, .slice q.A' Z.ss.length q.c', .slice q.A'' Z.ws.length q.c'']] w0 fun e w' => e = .returned (.int .i64 (checkX Z)) ∧ Sat W w' L0 from efChk_any Z q hzk hq h))
      have HBZ := Lib.hid (fun (w0 : World) (L0 : List SL) (q : EfAt) (hq : EfRd W L0 Z q) (h : Sat W w0 L0) => (show Calls Tryz.prog 16 #[.agg #[.int .i64 Z.why, .int .i64 Z.steps, .slice q.A Z.rs.length q.c, .slice q.A' Z.ss.length q.c', .slice q.A'' Z.ws.length q.c'']] w0 fun e w' => ∃ A' c', e = .returned (.tuple #[.slice A' (bytesE Z).1.length c', .int .i64 (bytesE Z).2]) ∧ Sat W w' (row 5 zB (.slice A' (bytesE Z).1.length c') (bytesE Z).1.length ((bytesE Z).1.map B) :: L0) from efBytes_any Z q hzk hq h))
      have hbz : checkX Z = 0 → bytesX Z = bs → bytesE Z = (bs, 0) := fun h1 h2 => by unfold bytesE; rw [if_pos h1, h2]
      clear hsb K1 K2 hR hr0 hI
      by_cases hck : checkX x = 0
      · have hbx : bytesE x = (bytesX x, 0) := by unfold bytesE; rw [if_pos hck]
        have hbl := bytesX_len hck
        have hrd := readE_here hck
        have K3 := fun (w0 : World) (L0 : List SL) (A1 : Option Addr) (c1 : Nat) (h1 : RdL W L0 A1 ((bytesX x).map B)) (h : Sat W w0 L0) => efRead_any A1 c1 (bytesX x) h1 (by omega) h
        simp only [hrd] at K3
        have K4 : ∀ (w0 : World) (L0 : List SL) (A1 : Option Addr) (c1 : Nat), RdL W L0 A1 ((bytesX x).map B) → Sat W w0 L0 → Calls Tryz.prog 31 #[.slice A1 (bytesX x).length c1] w0 fun e w' => ∃ q : EfAt, e = .returned (.tuple #[.agg #[.int .i64 x.why, .int .i64 x.steps, .slice q.A x.rs.length q.c, .slice q.A' x.ss.length q.c', .slice q.A'' x.ws.length q.c''], .agg #[.int .i64 0, .int .i64 0]]) ∧ Sat W w' (efN x q L0) := K3
        have HR1 := Lib.hid (K4)
        rw [hck] at HE
        rw [hbx] at HB
        dsimp only at HB
        have hxx : decide (x = x) = true := decide_eq_true rfl
        clear K3 K4 hck hbx hbl hrd
        generalize bytesX x = bx at *
        rcases hpt with ⟨h1, h2, h3, h4⟩ | ⟨h1, h2, h3, h4⟩
        · subst h2
          have e1 : (fe != 0) = true := by simpa using h1
          have e2 : decide ((0 : Int) ≤ fa) = true := decide_eq_true h3
          have e3 : decide (fa ≤ (bs.length : Int)) = true := decide_eq_true h4
          have hzz : decide (noE = noE) = true := decide_eq_true rfl
          clear h1 h3 h4 hbz HEZ HBZ HSB
          go_enter Tryz.func5, Tryz.ntmps5
          go_wp2_with fail
          refine (HW.out _ _ H1).mono ?_
          rintro e w1 ⟨rfl, H2⟩
          have i0 := (H2).cell 0
          have i1 := (H2).cell 1
          have i2 := (H2).cell 2
          have i3 := (H2).cell 3
          have i4 := (H2).cell 4
          go_wp2_with fail
          refine (HLX.out _ _ H2).mono ?_
          rintro e w2 ⟨rfl, H3⟩
          clear i0 i1 i2 i3 i4
          clear H1 H2
          have i0 := (H3).cell 0
          have i1 := (H3).cell 1
          have i2 := (H3).cell 2
          have i3 := (H3).cell 3
          have i4 := (H3).cell 4
          go_wp2_with fail
          refine (HB.out _ _ (hr _) H3).mono ?_
          rintro e w3 ⟨A3, c3, rfl, H4⟩
          clear i0 i1 i2 i3 i4
          clear H3
          have i0 := (H4.swap).cell 0
          have i1 := (H4.swap).cell 1
          have i2 := (H4.swap).cell 2
          have i3 := (H4.swap).cell 3
          have i4 := (H4.swap).cell 4
          go_wp2_with fail
          refine (HE.out _ _ H4).mono ?_
          rintro e w4 ⟨rfl, H5⟩
          clear i0 i1 i2 i3 i4
          clear H4
          go_wp2_with fail
          refine (HR1.out _ _ A3 c3 RdL.row H5).mono ?_
          rintro e w5 ⟨q1, rfl, H6⟩
          have HQ1 := Lib.hid (efN_rd H6)
          have H7 := (H6.alloc #[.int .i64 x.why, .int .i64 x.steps, .slice q1.A x.rs.length q1.c, .slice q1.A' x.ss.length q1.c', .slice q1.A'' x.ws.length q1.c''] 26).alloc #[.int .i64 0, .int .i64 0] 45
          simp only [World.size_alloc] at H7
          clear H5 H6
          have n0 := H7.cell 0
          have i0 := (H7.pull 6).cell 0
          have i1 := (H7.pull 6).cell 1
          have i2 := (H7.pull 6).cell 2
          have i3 := (H7.pull 6).cell 3
          have i4 := (H7.pull 6).cell 4
          have k0 := (H7.pull 1).cell 0
          have k1 := (H7.pull 1).cell 1
          have k2 := (H7.pull 1).cell 2
          have k3 := (H7.pull 1).cell 3
          have k4 := (H7.pull 1).cell 4
          go_wp2_with fail
          refine (HS.out _ _ x x p q1 hok (hr _) HQ1.out.tail.tail H7).mono ?_
          rintro e w6 ⟨rfl, H8⟩
          clear n0 i0 i1 i2 i3 i4
          clear H7 k0 k1 k2 k3 k4
          go_wp2_with fail
          refine (HRB.out _ _ H8).mono ?_
          rintro e w10 ⟨qz, rfl, G1⟩
          have HQZ := Lib.hid (efN_rd G1)
          have G2 := (G1.alloc #[.int .i64 noE.why, .int .i64 noE.steps, .slice qz.A noE.rs.length qz.c, .slice qz.A' noE.ss.length qz.c', .slice qz.A'' noE.ws.length qz.c''] 26).alloc #[.int .i64 fe, .int .i64 fa] 45
          simp only [World.size_alloc] at G2
          clear G1
          have n0 := G2.cell 0
          have n1 := G2.cell 1
          have k0 := (G2.pull 1).cell 0
          have k1 := (G2.pull 1).cell 1
          have k2 := (G2.pull 1).cell 2
          have k3 := (G2.pull 1).cell 3
          have k4 := (G2.pull 1).cell 4
          go_wp2_with fail
          refine (HS.out _ _ noE noE qz ⟨none, 0, none, 0, none, 0⟩ hzk HQZ.out.tail.tail no_rd G2).mono ?_
          rintro e w11 ⟨rfl, G3⟩
          go_wp2
          go_ret
          exact ⟨rfl, Sat.drops [_, _, _, _, _, _, _, _, _, _, _, _] G3⟩
        · rw [hbz h3 h4] at HBZ
          dsimp only at HBZ
          rw [h3] at HEZ
          subst h1 h2
          clear h3 h4 hbz
          go_enter Tryz.func5, Tryz.ntmps5
          go_wp2_with fail
          refine (HW.out _ _ H1).mono ?_
          rintro e w1 ⟨rfl, H2⟩
          have i0 := (H2).cell 0
          have i1 := (H2).cell 1
          have i2 := (H2).cell 2
          have i3 := (H2).cell 3
          have i4 := (H2).cell 4
          go_wp2_with fail
          refine (HLX.out _ _ H2).mono ?_
          rintro e w2 ⟨rfl, H3⟩
          clear i0 i1 i2 i3 i4
          clear H1 H2
          have i0 := (H3).cell 0
          have i1 := (H3).cell 1
          have i2 := (H3).cell 2
          have i3 := (H3).cell 3
          have i4 := (H3).cell 4
          go_wp2_with fail
          refine (HB.out _ _ (hr _) H3).mono ?_
          rintro e w3 ⟨A3, c3, rfl, H4⟩
          clear i0 i1 i2 i3 i4
          clear H3
          have i0 := (H4.swap).cell 0
          have i1 := (H4.swap).cell 1
          have i2 := (H4.swap).cell 2
          have i3 := (H4.swap).cell 3
          have i4 := (H4.swap).cell 4
          go_wp2_with fail
          refine (HE.out _ _ H4).mono ?_
          rintro e w4 ⟨rfl, H5⟩
          clear i0 i1 i2 i3 i4
          clear H4
          go_wp2_with fail
          refine (HR1.out _ _ A3 c3 RdL.row H5).mono ?_
          rintro e w5 ⟨q1, rfl, H6⟩
          have HQ1 := Lib.hid (efN_rd H6)
          have H7 := (H6.alloc #[.int .i64 x.why, .int .i64 x.steps, .slice q1.A x.rs.length q1.c, .slice q1.A' x.ss.length q1.c', .slice q1.A'' x.ws.length q1.c''] 26).alloc #[.int .i64 0, .int .i64 0] 45
          simp only [World.size_alloc] at H7
          clear H5 H6
          have n0 := H7.cell 0
          have i0 := (H7.pull 6).cell 0
          have i1 := (H7.pull 6).cell 1
          have i2 := (H7.pull 6).cell 2
          have i3 := (H7.pull 6).cell 3
          have i4 := (H7.pull 6).cell 4
          have k0 := (H7.pull 1).cell 0
          have k1 := (H7.pull 1).cell 1
          have k2 := (H7.pull 1).cell 2
          have k3 := (H7.pull 1).cell 3
          have k4 := (H7.pull 1).cell 4
          go_wp2_with fail
          refine (HS.out _ _ x x p q1 hok (hr _) HQ1.out.tail.tail H7).mono ?_
          rintro e w6 ⟨rfl, H8⟩
          clear n0 i0 i1 i2 i3 i4
          clear H7 k0 k1 k2 k3 k4
          go_wp2_with fail
          refine (HRB.out _ _ H8).mono ?_
          rintro e w10 ⟨qz, rfl, G1⟩
          have HQZ := Lib.hid (efN_rd G1)
          have G2 := (G1.alloc #[.int .i64 Z.why, .int .i64 Z.steps, .slice qz.A Z.rs.length qz.c, .slice qz.A' Z.ss.length qz.c', .slice qz.A'' Z.ws.length qz.c''] 26).alloc #[.int .i64 0, .int .i64 0] 45
          simp only [World.size_alloc] at G2
          clear G1
          have n0 := G2.cell 0
          have n1 := G2.cell 1
          have k0 := (G2.pull 1).cell 0
          have k1 := (G2.pull 1).cell 1
          have k2 := (G2.pull 1).cell 2
          have k3 := (G2.pull 1).cell 3
          have k4 := (G2.pull 1).cell 4
          go_wp2_with fail
          refine (HBZ.out _ _ qz HQZ.out.tail.tail G2).mono ?_
          rintro e w11 ⟨A11, c11, rfl, G3⟩
          clear n0 n1 k0 k1 k2 k3 k4
          have k0 := (G3.pull 2).cell 0
          have k1 := (G3.pull 2).cell 1
          have k2 := (G3.pull 2).cell 2
          have k3 := (G3.pull 2).cell 3
          have k4 := (G3.pull 2).cell 4
          go_wp2_with fail
          refine (HEZ.out _ _ qz HQZ.out.tail.tail.tail G3).mono ?_
          rintro e w12 ⟨rfl, G4⟩
          clear k0 k1 k2 k3 k4
          go_wp2_with fail
          refine (HSB.out _ _ A11 c11 RdL.row G4).mono ?_
          rintro e w13 ⟨rfl, rfl⟩
          go_wp2
          go_ret
          exact ⟨rfl, Sat.drops [_, _, _, _, _, _, _, _, _, _, _, _, _] G4⟩
      · have hbx : bytesE x = ([], checkX x) := by unfold bytesE; rw [if_neg hck]
        have hne : (checkX x == 0) = false := beq_eq_false_iff_ne.2 hck
        rw [hbx] at HB
        dsimp only at HB
        clear hck hbx
        generalize checkX x = ck at *
        rcases hpt with ⟨h1, h2, h3, h4⟩ | ⟨h1, h2, h3, h4⟩
        · subst h2
          have e1 : (fe != 0) = true := by simpa using h1
          have e2 : decide ((0 : Int) ≤ fa) = true := decide_eq_true h3
          have e3 : decide (fa ≤ (bs.length : Int)) = true := decide_eq_true h4
          have hzz : decide (noE = noE) = true := decide_eq_true rfl
          clear h1 h3 h4 hbz HEZ HBZ HSB
          go_enter Tryz.func5, Tryz.ntmps5
          go_wp2_with fail
          refine (HW.out _ _ H1).mono ?_
          rintro e w1 ⟨rfl, H2⟩
          have i0 := (H2).cell 0
          have i1 := (H2).cell 1
          have i2 := (H2).cell 2
          have i3 := (H2).cell 3
          have i4 := (H2).cell 4
          go_wp2_with fail
          refine (HLX.out _ _ H2).mono ?_
          rintro e w2 ⟨rfl, H3⟩
          clear i0 i1 i2 i3 i4
          clear H1 H2
          have i0 := (H3).cell 0
          have i1 := (H3).cell 1
          have i2 := (H3).cell 2
          have i3 := (H3).cell 3
          have i4 := (H3).cell 4
          go_wp2_with fail
          refine (HB.out _ _ (hr _) H3).mono ?_
          rintro e w3 ⟨A3, c3, rfl, H4⟩
          clear i0 i1 i2 i3 i4
          clear H3
          have i0 := (H4.swap).cell 0
          have i1 := (H4.swap).cell 1
          have i2 := (H4.swap).cell 2
          have i3 := (H4.swap).cell 3
          have i4 := (H4.swap).cell 4
          go_wp2_with fail
          refine (HE.out _ _ H4).mono ?_
          rintro e w4 ⟨rfl, H5⟩
          clear i0 i1 i2 i3 i4
          clear H4
          go_wp2_with fail
          refine (HRB.out _ _ H5).mono ?_
          rintro e w10 ⟨qz, rfl, G1⟩
          have HQZ := Lib.hid (efN_rd G1)
          have G2 := (G1.alloc #[.int .i64 noE.why, .int .i64 noE.steps, .slice qz.A noE.rs.length qz.c, .slice qz.A' noE.ss.length qz.c', .slice qz.A'' noE.ws.length qz.c''] 26).alloc #[.int .i64 fe, .int .i64 fa] 45
          simp only [World.size_alloc] at G2
          clear G1
          have n0 := G2.cell 0
          have n1 := G2.cell 1
          have k0 := (G2.pull 1).cell 0
          have k1 := (G2.pull 1).cell 1
          have k2 := (G2.pull 1).cell 2
          have k3 := (G2.pull 1).cell 3
          have k4 := (G2.pull 1).cell 4
          go_wp2_with fail
          refine (HS.out _ _ noE noE qz ⟨none, 0, none, 0, none, 0⟩ hzk HQZ.out.tail.tail no_rd G2).mono ?_
          rintro e w11 ⟨rfl, G3⟩
          go_wp2
          go_ret
          exact ⟨rfl, Sat.drops [_, _, _, _, _, _, _] G3⟩
        · rw [hbz h3 h4] at HBZ
          dsimp only at HBZ
          rw [h3] at HEZ
          subst h1 h2
          clear h3 h4 hbz
          go_enter Tryz.func5, Tryz.ntmps5
          go_wp2_with fail
          refine (HW.out _ _ H1).mono ?_
          rintro e w1 ⟨rfl, H2⟩
          have i0 := (H2).cell 0
          have i1 := (H2).cell 1
          have i2 := (H2).cell 2
          have i3 := (H2).cell 3
          have i4 := (H2).cell 4
          go_wp2_with fail
          refine (HLX.out _ _ H2).mono ?_
          rintro e w2 ⟨rfl, H3⟩
          clear i0 i1 i2 i3 i4
          clear H1 H2
          have i0 := (H3).cell 0
          have i1 := (H3).cell 1
          have i2 := (H3).cell 2
          have i3 := (H3).cell 3
          have i4 := (H3).cell 4
          go_wp2_with fail
          refine (HB.out _ _ (hr _) H3).mono ?_
          rintro e w3 ⟨A3, c3, rfl, H4⟩
          clear i0 i1 i2 i3 i4
          clear H3
          have i0 := (H4.swap).cell 0
          have i1 := (H4.swap).cell 1
          have i2 := (H4.swap).cell 2
          have i3 := (H4.swap).cell 3
          have i4 := (H4.swap).cell 4
          go_wp2_with fail
          refine (HE.out _ _ H4).mono ?_
          rintro e w4 ⟨rfl, H5⟩
          clear i0 i1 i2 i3 i4
          clear H4
          go_wp2_with fail
          refine (HRB.out _ _ H5).mono ?_
          rintro e w10 ⟨qz, rfl, G1⟩
          have HQZ := Lib.hid (efN_rd G1)
          have G2 := (G1.alloc #[.int .i64 Z.why, .int .i64 Z.steps, .slice qz.A Z.rs.length qz.c, .slice qz.A' Z.ss.length qz.c', .slice qz.A'' Z.ws.length qz.c''] 26).alloc #[.int .i64 0, .int .i64 0] 45
          simp only [World.size_alloc] at G2
          clear G1
          have n0 := G2.cell 0
          have n1 := G2.cell 1
          have k0 := (G2.pull 1).cell 0
          have k1 := (G2.pull 1).cell 1
          have k2 := (G2.pull 1).cell 2
          have k3 := (G2.pull 1).cell 3
          have k4 := (G2.pull 1).cell 4
          go_wp2_with fail
          refine (HBZ.out _ _ qz HQZ.out.tail.tail G2).mono ?_
          rintro e w11 ⟨A11, c11, rfl, G3⟩
          clear n0 n1 k0 k1 k2 k3 k4
          have k0 := (G3.pull 2).cell 0
          have k1 := (G3.pull 2).cell 1
          have k2 := (G3.pull 2).cell 2
          have k3 := (G3.pull 2).cell 3
          have k4 := (G3.pull 2).cell 4
          go_wp2_with fail
          refine (HEZ.out _ _ qz HQZ.out.tail.tail.tail G3).mono ?_
          rintro e w12 ⟨rfl, G4⟩
          clear k0 k1 k2 k3 k4
          go_wp2_with fail
          refine (HSB.out _ _ A11 c11 RdL.row G4).mono ?_
          rintro e w13 ⟨rfl, rfl⟩
          go_wp2
          go_ret
          exact ⟨rfl, Sat.drops [_, _, _, _, _, _, _, _] G4⟩
end Go.Proofs.YtodbmeklbamcfaaGreat

/- The row of EffectBack: for every input it answers true, and the input reads as it did. -/
namespace Go.Proofs.YtodbmeklbamcfaaGreat
open Go.ChangeShapes Go.WideShapes Go.ChangeMaps Go.RowKit Go.Rt

theorem effectBack_own : ownKnob Tryz.prog.godebug = none := by kernel_rfl
theorem effectBack_laid : laidOutB Tryz.prog = true := by kernel_rfl

set_option maxRecDepth 100000 in
theorem effectBack_lifted (os : Os) (started : os.Started) (H : Type) (enc : TypeId × Value → H) :
    ReturnsInHanded {} Tryz.checked os 5 .any (Rows.effectBackSpec.pre6 enc Tryz.prog Tryz.f5 Rows.effectBackRow.domain false) (Rows.effectBackSpec.post enc Tryz.prog Tryz.f5 false true false false) := by
  refine returnsInHanded_of_change (C := Tryz.checked) effectBack_own started (by kernel_rfl) Tryz.func5
    (ChangeSpec.witness6 (enc := enc) (C := Tryz.checked) false ⟨#[], #[.agg #[.int .i64 0, .int .i64 0, .slice none 0 0, .slice none 0 0, .slice none 0 0], .slice none 0 0], []⟩ 8 (by kernel_rfl) (by kernel_rfl) (by kernel_rfl) (by kernel_rfl)) ?_
  intro W base args ds gs before hval0 hW _ _
  have hval : ∀ (j : Nat) t v, Tryz.f5.params[j]? = some t → args[j]? = some v → Value.okWide Tryz.prog W .any base t v := hval0
  have hW' := hW
  obtain ⟨p, q, hA0, hV, rfl, _, _⟩ := hW
  have hA : DataW.TrodAll enc Tryz.prog W 0 (fun _ => true) true Tryz.f5.params.toList args.toList ds p := hA0
  rw [Tryz.params5] at hA hval
  obtain ⟨rfl, rfl⟩ := trodVars_none hV
  obtain ⟨v0, v1, d0, d1, p0, p1, rfl, rfl, rfl, h0, h1⟩ := trodAll_two hA
  obtain ⟨f0, hf0⟩ := h0
  obtain ⟨x0, P0, I0, hv0⟩ := ef_of_trod hf0
  replace hv0 := agg_of_cells hv0 (by simp [Ef.cs])
  obtain ⟨a1, l1, c1, rfl⟩ := okWide_slice Tryz.underlying30 (hval 1 30 v1 rfl rfl)
  obtain ⟨f1, hf1⟩ := h1
  obtain ⟨A1, k1, x1, hv1, hc1, hr1⟩ := open_bsl hf1
  rw [hv0, hv1] at hW' ⊢
  refine (lawEffectBack_any x0 P0 I0 A1 k1 x1 hr1).mono fun e W' ⟨he, hw⟩ => ?_
  subst he
  exact ⟨_, rfl, post_law (tB := 4) hW' rfl rfl (by kernel_rfl) Tryz.underlying4 effectBack_laid (by rw [Tryz.params5]; decide +kernel) hw.bel⟩

theorem effectBack_holds : Rows.EffectBackSaid :=
  OpenClaim.holds_of_wide 5 Tryz.f5 rfl rfl rfl rfl rfl rfl rfl ⟨rfl, rfl, rfl, rfl, rfl⟩ rfl rfl rfl rfl rfl (by kernel_rfl) Tryz.func5 (by kernel_rfl)
    (of_decide_eq_true (by kernel_rfl)) (by unfold Func.isWrapper; rw [if_neg (of_decide_eq_false (by kernel_rfl))]; exact ⟨rfl, rfl⟩)
    (fun os started H enc _ => effectBack_lifted os started H enc)
#print axioms effectBack_holds
end Go.Proofs.YtodbmeklbamcfaaGreat
