/- The keys that are in spans; whether some are among others, or in spans. -/
import Derived.Test.YtnpgjobaibnknaaKdS
import Derived.Test.YtnpgjobaibnknaaKdG
import Derived.Test.YtnpgjobaibnknaaRtL
namespace Go.Proofs.Ytnpgjobaibnknaa
open Go.RowKit Go.Rt

set_option maxRecDepth 100000 in
theorem eAmong1_any {W w : World} {L : List SL} (q : Nat) (A : Option Addr) (c : Nat) (s : List Sp) (k : Str) (hs : s.length ≤ maxLen) (hr : RdL W L A (spC s)) (hq : ∀ w', Sat W w' L → w'.cell? ⟨q, 0, none⟩ = some (.slice A s.length c)) (H : Sat W w L) :
    Calls Try.prog 70 #[.string ⟨k.toArray⟩, .pointer (some ⟨q, 0, none⟩)] w fun e w' => e = .returned (.bool (!hasSp s k)) ∧ Sat W w' L := by
  have h := sHas_any k A c s hs hr H
  have HH := Lib.hid h
  have hc := hq w H
  clear h hq
  generalize hasSp s k = bb at *
  go_enter Try.func70, Try.ntmps70
  go_wp2_with fail
  refine HH.out.mono ?_
  rintro e w2 ⟨rfl, H2⟩
  go_wp2
  go_ret
  exact ⟨rfl, H2⟩

set_option maxRecDepth 100000 in
set_option maxHeartbeats 4000000 in
theorem eIndexFunc_any {W w : World} {L : List SL} (q : Nat) (A A' : Option Addr) (c c' : Nat) (s : List Sp) (l : List Str) (hl : l.length ≤ maxLen) (hs : s.length ≤ maxLen) (hr : RdL W L A (spC s)) (hq : ∀ w', Sat W w' L → w'.cell? ⟨q, 0, none⟩ = some (.slice A s.length c)) (hx : RdL W L A' (tsC l)) (H : Sat W w L) :
    Calls Try.prog 93 #[.slice A' l.length c', .func (.func 70) #[] #[.pointer (some ⟨q, 0, none⟩)]] w fun e w' => ((e = .returned (.int .i64 (-1)) ∧ l.filter (hasSp s) = l) ∨ ∃ j : Nat, e = .returned (.int .i64 j) ∧ j < l.length ∧ (l.take (j + 1)).filter (hasSp s) = l.take j) ∧ Sat W w' L := by
  have hl' := hl
  unfold maxLen at hl'
  have HA := Lib.hid (fun (w0 : World) (k : Str) (h : Sat W w0 L) => eAmong1_any (W := W) (w := w0) (L := L) q A c s k hs hr hq h)
  have HX := Lib.hid hx
  clear hq hr hs hx
  go_enter Try.func93, Try.ntmps93
  go_wp2
  go_loopw [8] (fun i wc => ∃ j : Nat, j ≤ l.length ∧ i = .int .i64 j ∧ Hid ((l.take j).filter (hasSp s) = l.take j) ∧ Sat W wc L) (fun i _ => l.length - (intOf i).toNat)
  case atStart => exact ⟨0, by omega, rfl, Lib.hid rfl, H⟩
  case round =>
    obtain ⟨j, hj, rfl, hN, H1⟩ := hrel
    by_cases hlt : j < l.length
    · obtain ⟨x, hs⟩ : ∃ s, l[j]? = some s := ⟨_, List.getElem?_eq_getElem hlt⟩
      obtain ⟨b, o, rfl, c0⟩ := ts_at (HX.out _ H1) j x hs
      have HI := Lib.hid (HA.out wr x H1)
      have htk : l.take (j + 1) = l.take j ++ [x] := by rw [List.take_add_one, hs]; rfl
      have HTK := Lib.hid htk
      clear hs htk
      cases hb : hasSp s x with
      | true =>
        rw [hb] at HI
        have hN2 : (l.take (j + 1)).filter (hasSp s) = l.take (j + 1) := by rw [HTK.out, List.filter_append, hN.out]; simp [hb]
        have HN2 := Lib.hid hN2
        clear hb hN2
        go_wp2_with fail
        refine HI.out.mono ?_
        rintro e w2 ⟨rfl, H2⟩
        go_wp2
        exact ⟨⟨j + 1, by omega, by go_num, HN2, H2⟩, by simp [intOf]; omega⟩
      | false =>
        rw [hb] at HI
        have hN2 : (l.take (j + 1)).filter (hasSp s) = l.take j := by rw [HTK.out, List.filter_append, hN.out]; simp [hb]
        have HN2 := Lib.hid hN2
        clear hb hN2
        go_wp2_with fail
        refine HI.out.mono ?_
        rintro e w2 ⟨rfl, H2⟩
        go_wp2
        go_ret
        exact ⟨.inr ⟨j, rfl, hlt, HN2.out⟩, H2⟩
    · obtain rfl : j = l.length := by omega
      have hf : l.filter (hasSp s) = l := by have := hN.out; rwa [List.take_length] at this
      have HF := Lib.hid hf
      clear hf
      go_wp2
      go_ret
      exact ⟨.inl ⟨rfl, HF.out⟩, H1⟩
end Go.Proofs.Ytnpgjobaibnknaa
