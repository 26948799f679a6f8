/- The chapter's state; what the document's examples say. -/
import Derived.Test.YtnpgjobaibnknaaKeP
import Derived.Test.YtnpgjobaibnknaaRtI
namespace Go.Proofs.Ytnpgjobaibnknaa
open Go.RowKit Go.Rt

def sampleS : List Pr := [⟨[97], [49]⟩, ⟨[98], [50]⟩, ⟨[100], [52]⟩]
set_option maxRecDepth 100000 in
set_option maxHeartbeats 4000000 in
theorem csample_any {W w : World} {L : List SL} (H : Sat W w L) :
    Calls Try.prog 63 #[] w fun e w' => ∃ b, e = .returned (.slice (some ⟨b, 0, none⟩) 3 3) ∧ Sat W w' (pt b (prC sampleS).toArray 64 :: L) := by
  have H1 := H.alloc (prC sampleS).toArray 64
  go_enter Try.func63, Try.ntmps63
  go_wp2_with fail
  go_ret
  exact ⟨_, rfl, H1⟩
def awakeW : List Wt := [⟨[99], [51], false⟩, ⟨[97], [], true⟩]
def awakeS : List Pr := [⟨[98], [50]⟩, ⟨[99], [51]⟩, ⟨[100], [52]⟩]
theorem awake_get : getE sampleS [98] = ([50], true) := by decide +kernel
theorem awake_apply : applyE sampleS awakeW = (awakeS, 0) := by decide +kernel
set_option maxRecDepth 100000 in
set_option maxHeartbeats 4000000 in
theorem cawake_any {W w : World} {L : List SL} (H : Sat W w L) :
    Calls Try.prog 39 #[] w fun e w' => e = .returned (.bool true) ∧ Sat W w' L := by
  have hg := fun w0 b (L0 : List SL) (h : Sat W w0 (pt b (prC sampleS).toArray 64 :: L0)) => cGet_any (some ⟨b, 0, none⟩) 3 sampleS [98] (by unfold maxLen; decide) RdL.pt h
  rw [awake_get] at hg
  have HG := Lib.hid (hg)
  have ha := fun w0 b b' (L0 : List SL) (h : Sat W w0 (pt b' (wtC awakeW).toArray 51 :: pt b (prC sampleS).toArray 64 :: L0)) => cApply_any (some ⟨b, 0, none⟩) (some ⟨b', 0, none⟩) 3 2 sampleS awakeW (by unfold maxLen; decide) (by decide) (by unfold maxLen; decide) (RdL.tail RdL.pt) RdL.pt h
  rw [awake_apply] at ha
  have HA := Lib.hid (ha)
  have hs := fun w0 (A : Option Addr) c b (L0 : List SL) (h : Sat W w0 (pt b (prC awakeS).toArray 64 :: row 64 zPr (.slice A awakeS.length c) awakeS.length (prC awakeS) :: L0)) => SamePairs_any A (some ⟨b, 0, none⟩) c 3 awakeS awakeS (by unfold maxLen; decide) h.tail.rd (RdL.pt _ h)
  rw [decide_eq_true (show awakeS = awakeS from rfl)] at hs
  have HS := Lib.hid (hs)
  clear hg ha hs
  go_enter Try.func39, Try.ntmps39
  go_wp2_with fail
  refine (csample_any H).mono ?_
  rintro e w2 ⟨b, rfl, H2⟩
  go_wp2_with fail
  refine (HG.out _ _ _ H2).mono ?_
  rintro e w3 ⟨rfl, H3⟩
  go_wp2_with fail
  refine (csample_any H3.tail).mono ?_
  rintro e w4 ⟨b2, rfl, H4⟩
  have H5 := H4.alloc (wtC awakeW).toArray 51
  go_wp2_with fail
  refine (HA.out _ _ _ _ H5).mono ?_
  rintro e w5 ⟨A, c, rfl, H6⟩
  have H7 := H6.alloc (prC awakeS).toArray 64
  go_wp2_with fail
  refine (HS.out _ _ _ _ _ H7).mono ?_
  rintro e w6 ⟨rfl, hB⟩
  go_wp2
  go_ret
  exact ⟨rfl, (H7.below hB).tail.tail.tail.tail⟩
theorem applyE_len (l : List Pr) (ws : List Wt) : (applyE l ws).1.length ≤ 65536 := by
  unfold applyE
  split
  · split
    · split
      · simp
      · dsimp only; omega
    · simp
  · simp
theorem diffE_len (a b : List Pr) : (diffE a b).length ≤ a.length + b.length := by
  unfold diffE
  split
  · exact diff_len a b
  · simp
theorem good_of {l : List Pr} (h : checkS l = 0) : (∀ p ∈ l, okP p = true) ∧ RiseP l := (goodP_iff l).1 ((checkS_ok l).1 h).2
end Go.Proofs.Ytnpgjobaibnknaa

