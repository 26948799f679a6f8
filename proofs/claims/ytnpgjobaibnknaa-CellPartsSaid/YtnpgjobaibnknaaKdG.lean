/- What two lists of keys have in common, or not: the program's own answer. -/
import Derived.Test.YtnpgjobaibnknaaKdF
namespace Go.Proofs.Ytnpgjobaibnknaa
open Go.RowKit Go.Rt

set_option maxRecDepth 100000 in
theorem eMinus_any {W w : World} {L : List SL} (A A' : Option Addr) (c c' : Nat) (a b : List Str) (ha : a.length ≤ 100000000) (hb : b.length ≤ 100000000) (hxa : ∀ x ∈ a, x.length ≤ maxLen) (hxb : ∀ x ∈ b, x.length ≤ maxLen) (hr : RdL W L A (tsC a)) (hr' : RdL W L A' (tsC b)) (H : Sat W w L) :
    Calls Try.prog 24 #[.slice A a.length c, .slice A' b.length c'] w fun e w' => ∃ A2 c2, e = .returned (.slice A2 (minusS a b).length c2) ∧ Sat W w' (seenS 9 (.slice A2 (minusS a b).length c2) (minusS a b).length (tsC (minusS a b)) :: L) := by
  have h := ewalk_any A A' c c' a b false ha hb hxa hxb hr hr' H
  have HH := Lib.hid h
  clear h
  go_enter Try.func24, Try.ntmps24
  go_wp2_with fail
  refine HH.out.mono ?_
  rintro e w1 ⟨A1, c1, rfl, H1⟩
  go_wp2
  go_ret
  exact ⟨A1, c1, rfl, H1⟩
set_option maxRecDepth 100000 in
theorem eBoth_any {W w : World} {L : List SL} (A A' : Option Addr) (c c' : Nat) (a b : List Str) (ha : a.length ≤ 100000000) (hb : b.length ≤ 100000000) (hxa : ∀ x ∈ a, x.length ≤ maxLen) (hxb : ∀ x ∈ b, x.length ≤ maxLen) (hr : RdL W L A (tsC a)) (hr' : RdL W L A' (tsC b)) (H : Sat W w L) :
    Calls Try.prog 25 #[.slice A a.length c, .slice A' b.length c'] w fun e w' => ∃ A2 c2, e = .returned (.slice A2 (bothS a b).length c2) ∧ Sat W w' (seenS 9 (.slice A2 (bothS a b).length c2) (bothS a b).length (tsC (bothS a b)) :: L) := by
  have h := ewalk_any A A' c c' a b true ha hb hxa hxb hr hr' H
  have HH := Lib.hid h
  clear h
  go_enter Try.func25, Try.ntmps25
  go_wp2_with fail
  refine HH.out.mono ?_
  rintro e w1 ⟨A1, c1, rfl, H1⟩
  go_wp2
  go_ret
  exact ⟨A1, c1, rfl, H1⟩
end Go.Proofs.Ytnpgjobaibnknaa
