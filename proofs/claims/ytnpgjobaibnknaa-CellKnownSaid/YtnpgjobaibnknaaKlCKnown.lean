/- CellKnown answers true. -/
import Derived.Test.YtnpgjobaibnknaaKeQ
namespace Go.Proofs.Ytnpgjobaibnknaa
open Go.RowKit Go.Rt

def toS : List Pr := [⟨[98], [50]⟩, ⟨[99], [51]⟩, ⟨[100], [53]⟩]
def ckA : List Pr := [⟨[98], [50]⟩, ⟨[100], [52]⟩]
def ckB : List Pr := [⟨[97], [49]⟩]
def ckD : List Wt := [⟨[97], [], true⟩, ⟨[99], [51], false⟩, ⟨[100], [53], false⟩]
def ckC : List Str := [[97], [99], [100]]
def ckE : List Wt := [⟨[], [], false⟩]
def ckF : List Pr := [⟨[98], []⟩, ⟨[97], []⟩]
theorem ck_get : getE sampleS [99] = ([], false) := by decide +kernel
theorem ck_apply : applyE sampleS ckE = ([], 2) := by decide +kernel
theorem ck_scan : scanE sampleS ⟨[98], []⟩ (5 : Int).toNat = ckA := by decide +kernel
theorem ck_scan2 : scanE sampleS ⟨[], []⟩ (1 : Int).toNat = ckB := by decide +kernel
theorem ck_diff : diffE sampleS toS = ckD := by decide +kernel
theorem ck_changed : changedE sampleS toS = ckC := by decide +kernel
theorem ck_check : checkS ckF = 2 := by decide +kernel
theorem ck_key : keyB [] = false := by decide +kernel
set_option maxRecDepth 100000 in
set_option maxHeartbeats 16000000 in
theorem lawCellKnown_any {W : World} :
    Calls Try.prog 13 #[] W fun e w' => e = .returned (.bool true) ∧ Sat W w' [] := by
  have hg := fun w0 L b (r : RdL W L (some ⟨b, 0, none⟩) (prC sampleS)) (h : Sat W w0 L) => cGet_any (some ⟨b, 0, none⟩) 3 sampleS [99] (by unfold maxLen; decide) r h
  rw [ck_get] at hg
  have ha := fun w0 L b b' (r : RdL W L (some ⟨b, 0, none⟩) (prC sampleS)) (r' : RdL W L (some ⟨b', 0, none⟩) (wtC ckE)) (h : Sat W w0 L) => cApply_any (some ⟨b, 0, none⟩) (some ⟨b', 0, none⟩) 3 1 sampleS ckE (by unfold maxLen; decide) (by decide) (by unfold maxLen; decide) r r' h
  rw [ck_apply] at ha
  have hs1 := fun w0 L b (r : RdL W L (some ⟨b, 0, none⟩) (prC sampleS)) (h : Sat W w0 L) => cScan_any (some ⟨b, 0, none⟩) 3 sampleS ⟨[98], []⟩ 5 (by unfold maxLen; decide) (by decide) r h
  rw [ck_scan] at hs1
  have hs2 := fun w0 L b (r : RdL W L (some ⟨b, 0, none⟩) (prC sampleS)) (h : Sat W w0 L) => cScan_any (some ⟨b, 0, none⟩) 3 sampleS ⟨[], []⟩ 1 (by unfold maxLen; decide) (by decide) r h
  rw [ck_scan2] at hs2
  have hd := fun w0 L b b' (r : RdL W L (some ⟨b, 0, none⟩) (prC sampleS)) (r' : RdL W L (some ⟨b', 0, none⟩) (prC toS)) (h : Sat W w0 L) => cDiff_any (some ⟨b, 0, none⟩) (some ⟨b', 0, none⟩) 3 3 sampleS toS (by unfold maxLen; decide) (by unfold maxLen; decide) (by decide) (by decide) r r' h
  rw [ck_diff] at hd
  have hc := fun w0 L b b' (r : RdL W L (some ⟨b, 0, none⟩) (prC sampleS)) (r' : RdL W L (some ⟨b', 0, none⟩) (prC toS)) (h : Sat W w0 L) => cChanged_any (some ⟨b, 0, none⟩) (some ⟨b', 0, none⟩) 3 3 sampleS toS (by unfold maxLen; decide) (by unfold maxLen; decide) (by decide) (by decide) r r' h
  rw [ck_changed] at hc
  have hk := fun w0 L b (r : RdL W L (some ⟨b, 0, none⟩) (prC ckF)) (h : Sat W w0 L) => cChk_any (some ⟨b, 0, none⟩) 2 ckF (by unfold maxLen; decide) r h
  rw [ck_check] at hk
  have hy := fun w0 => cKey_any (w := w0) []
  rw [ck_key] at hy
  have hpa := fun w0 (A A' : Option Addr) c c' (r : Rd w0 A (prC ckA)) (r' : Rd w0 A' (prC ckA)) => SamePairs_any A A' c c' ckA ckA (by unfold maxLen; decide) r r'
  rw [decide_eq_true (show ckA = ckA from rfl)] at hpa
  have hpb := fun w0 (A A' : Option Addr) c c' (r : Rd w0 A (prC ckB)) (r' : Rd w0 A' (prC ckB)) => SamePairs_any A A' c c' ckB ckB (by unfold maxLen; decide) r r'
  rw [decide_eq_true (show ckB = ckB from rfl)] at hpb
  have hw := fun w0 (A A' : Option Addr) c c' (r : Rd w0 A (wtC ckD)) (r' : Rd w0 A' (wtC ckD)) => SameWrites_any A A' c c' ckD ckD (by unfold maxLen; decide) r r'
  rw [decide_eq_true (show ckD = ckD from rfl)] at hw
  have ht := fun w0 (A A' : Option Addr) c c' (r : Rd w0 A (tsC ckC)) (r' : Rd w0 A' (tsC ckC)) => SameTexts_any A A' c c' ckC ckC (by unfold maxLen; decide) r r'
  rw [decide_eq_true (show ckC = ckC from rfl)] at ht
  have HG := Lib.hid (hg)
  have HA := Lib.hid (ha)
  have HS1 := Lib.hid (hs1)
  have HS2 := Lib.hid (hs2)
  have HD := Lib.hid (hd)
  have HC := Lib.hid (hc)
  have HK := Lib.hid (hk)
  have HY := Lib.hid (hy)
  have HPA := Lib.hid (hpa)
  have HPB := Lib.hid (hpb)
  have HT := Lib.hid (ht)
  have HW2 := Lib.hid (hw)
  clear hg ha hs1 hs2 hd hc hk hy hpa hpb hw ht
  go_enter Try.func13, Try.ntmps13
  go_wp2_with fail
  refine (csample_any (Sat.start W)).mono ?_
  rintro e w1 ⟨b, rfl, H1⟩
  go_wp2_with fail
  refine (HG.out _ _ b RdL.pt H1).mono ?_
  rintro e w2 ⟨rfl, H2⟩
  have H3 := H2.alloc (wtC ckE).toArray 51
  go_wp2_with fail
  refine (HA.out _ _ b _ (RdL.tail RdL.pt) RdL.pt H3).mono ?_
  rintro e w4 ⟨A4, c4, rfl, H4⟩
  have H5 := H4.tail.tail.alloc (prC toS).toArray 64
  go_wp2_with fail
  have H5d := H5.drew
  clear H1 H2 H3 H4 HG HA
  have hpz : ∀ L, RdL W L (some ⟨b, 0, none⟩) (prC sampleS) → RdL W L (some ⟨b, 2, none⟩) (prC ckA) := fun L r => prC_rdl (c := 3) r (by decide) 1 (by decide)
  have hpy : ∀ L, RdL W L (some ⟨b, 0, none⟩) (prC sampleS) → RdL W L (some ⟨b, 0, none⟩) (prC ckB) := fun L r w0 h => subZ_rd (r w0 h) (prC_len sampleS) (c := 3) (by decide) 0 1 (by decide)
  have HPZ := Lib.hid (fun x y => hpz (x :: y :: [pt b (prC sampleS).toArray 64]) (RdL.tail (RdL.tail RdL.pt)))
  have HPY := Lib.hid (fun x y => hpy (x :: y :: [pt b (prC sampleS).toArray 64]) (RdL.tail (RdL.tail RdL.pt)))
  clear hpz hpy
  go_region_held3 (fun _ => True) (exact trivial) (first
    | (go_at_call 47; refine (HS1.out _ _ b (RdL.tail RdL.pt) H5d).mono ?_; rintro e w6 ⟨A6, c6, rfl, H6⟩; clear H5d)
    | (go_at_call 48; refine (HPA.out _ _ _ _ _ (RdL.row _ H6) (HPZ.out _ _ _ H6)).mono ?_; rintro e w7 ⟨rfl, hB7⟩; have H7 := (H6.below hB7).tail; clear H6)
    | (go_at_call 47; refine (HS2.out _ _ b (RdL.tail RdL.pt) H7).mono ?_; rintro e w8 ⟨A8, c8, rfl, H8⟩; clear H7)
    | (go_at_call 48; refine (HPB.out _ _ _ _ _ (RdL.row _ H8) (HPY.out _ _ _ H8)).mono ?_; rintro e w9 ⟨rfl, hB9⟩; have H9 := (H8.below hB9).tail; clear H8))
  go_wp2_with fail
  refine (HD.out _ _ b _ (RdL.tail RdL.pt) RdL.pt H9).mono ?_
  rintro e w10 ⟨A10, c10, rfl, H10⟩
  have H11 := H10.alloc (wtC ckD).toArray 51
  go_wp2_with fail
  refine (HW2.out _ _ _ _ _ (RdL.tail RdL.row _ H11) (RdL.pt _ H11)).mono ?_
  rintro e w12 ⟨rfl, hB12⟩
  have H12 := (H11.below hB12).tail.tail
  clear H10 H11 HD HW2
  go_wp2_with fail
  refine (HC.out _ _ b _ (RdL.tail RdL.pt) RdL.pt H12).mono ?_
  rintro e w13 ⟨A13, c13, rfl, H13⟩
  have H14 := H13.alloc (tsC ckC).toArray 9
  go_wp2_with fail
  refine (HT.out _ _ _ _ _ (RdL.tail RdL.seenS _ H14) (RdL.pt _ H14)).mono ?_
  rintro e w15 ⟨rfl, hB15⟩
  have H15 := (H14.below hB15).tail.tail
  clear H12 H13 H14 HC HT
  go_wp2_with fail
  refine (cawake_any H15).mono ?_
  rintro e w16 ⟨rfl, H16⟩
  have H17 := H16.alloc (prC ckF).toArray 64
  go_wp2_with fail
  refine (HK.out _ _ _ RdL.pt H17).mono ?_
  rintro e w18 ⟨rfl, H18⟩
  go_wp2_with fail
  refine (HY.out _).mono ?_
  rintro e _ ⟨rfl, rfl⟩
  go_wp2
  go_ret
  exact ⟨rfl, H18.tail.tail.tail⟩
end Go.Proofs.Ytnpgjobaibnknaa
