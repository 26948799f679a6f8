/- Package word's reader: nil, or not made by Open. -/
import Derived.Test.YtkfeejlpgcmilaaWdN
import Derived.Laws.Rows
namespace Go.Proofs.Ytkfeejlpgcmilaa
open Go.RowKit Go.Rt

abbrev offC : Array Value := #[.bool false, .slice none 0 0, .int .i64 0, .int .i64 0, .int .i64 0]

theorem rInt_none {W w : World} {l : List SL} (low high : Int) (H : Sat W w (l)) :
    Calls Try.prog 32 #[.pointer none, .int .i64 low, .int .i64 high] w fun e w' => e = .returned (.int .i64 0) ∧ Sat W w' (l) := by
  have hmf : ∀ (fn : Fn) (first cap : Array Value) (w : World), (Instr.makeFunc fn first cap).run Try.prog w = .ok (.func fn first cap) w := fun _ _ _ _ => rfl
  have H1 := ((((H.alloc' (.cells #[.pointer none] 52)).alloc' (.cells #[.int .i64 low] 3)).alloc' (.cells #[.int .i64 high] 3)).alloc' (.cells #[.int .i64 0] 3))
  go_enter Try.func32, Try.ntmps32
  go_wp2_with fail
  refine (try_none _ _).mono ?_
  rintro e w1 ⟨rfl, HB⟩
  have H2 := H1.below HB
  clear H1 hmf
  go_wp2
  go_ret
  exact ⟨rfl, H2⟩

theorem rInt_off {W w : World} {l : List SL} (p : Nat) (low high : Int) (H : Sat W w (pt p offC 78 :: l)) :
    Calls Try.prog 32 #[.pointer (some ⟨p, 0, none⟩), .int .i64 low, .int .i64 high] w fun e w' => e = .returned (.int .i64 0) ∧ Sat W w' (pt p offC 78 :: l) := by
  have hmf : ∀ (fn : Fn) (first cap : Array Value) (w : World), (Instr.makeFunc fn first cap).run Try.prog w = .ok (.func fn first cap) w := fun _ _ _ _ => rfl
  have H1 := ((((H.alloc' (.cells #[.pointer (some ⟨p, 0, none⟩)] 52)).alloc' (.cells #[.int .i64 low] 3)).alloc' (.cells #[.int .i64 high] 3)).alloc' (.cells #[.int .i64 0] 3))
  go_enter Try.func32, Try.ntmps32
  go_wp2_with fail
  refine (try_off p _ _ (H1.cell 0)).mono ?_
  rintro e w1 ⟨rfl, HB⟩
  have H2 := H1.below HB
  clear H1 hmf
  go_wp2
  go_ret
  exact ⟨rfl, H2⟩

theorem rCount_none {W w : World} {l : List SL} (high : Int) (H : Sat W w (l)) :
    Calls Try.prog 42 #[.pointer none, .int .i64 high] w fun e w' => e = .returned (.int .i64 0) ∧ Sat W w' (l) := by
  have hmf : ∀ (fn : Fn) (first cap : Array Value) (w : World), (Instr.makeFunc fn first cap).run Try.prog w = .ok (.func fn first cap) w := fun _ _ _ _ => rfl
  have H1 := (((H.alloc' (.cells #[.pointer none] 52)).alloc' (.cells #[.int .i64 high] 3)).alloc' (.cells #[.int .i64 0] 3))
  go_enter Try.func42, Try.ntmps42
  go_wp2_with fail
  refine (try_none _ _).mono ?_
  rintro e w1 ⟨rfl, HB⟩
  have H2 := H1.below HB
  clear H1 hmf
  go_wp2
  go_ret
  exact ⟨rfl, H2⟩

theorem rCount_off {W w : World} {l : List SL} (p : Nat) (high : Int) (H : Sat W w (pt p offC 78 :: l)) :
    Calls Try.prog 42 #[.pointer (some ⟨p, 0, none⟩), .int .i64 high] w fun e w' => e = .returned (.int .i64 0) ∧ Sat W w' (pt p offC 78 :: l) := by
  have hmf : ∀ (fn : Fn) (first cap : Array Value) (w : World), (Instr.makeFunc fn first cap).run Try.prog w = .ok (.func fn first cap) w := fun _ _ _ _ => rfl
  have H1 := (((H.alloc' (.cells #[.pointer (some ⟨p, 0, none⟩)] 52)).alloc' (.cells #[.int .i64 high] 3)).alloc' (.cells #[.int .i64 0] 3))
  go_enter Try.func42, Try.ntmps42
  go_wp2_with fail
  refine (try_off p _ _ (H1.cell 0)).mono ?_
  rintro e w1 ⟨rfl, HB⟩
  have H2 := H1.below HB
  clear H1 hmf
  go_wp2
  go_ret
  exact ⟨rfl, H2⟩

theorem rText_none {W w : World} {l : List SL} (high : Int) (H : Sat W w (l)) :
    Calls Try.prog 35 #[.pointer none, .int .i64 high] w fun e w' => e = .returned (.string ⟨#[]⟩) ∧ Sat W w' (l) := by
  have hmf : ∀ (fn : Fn) (first cap : Array Value) (w : World), (Instr.makeFunc fn first cap).run Try.prog w = .ok (.func fn first cap) w := fun _ _ _ _ => rfl
  have H1 := (((H.alloc' (.cells #[.pointer none] 52)).alloc' (.cells #[.int .i64 high] 3)).alloc' (.cells #[.string ⟨#[]⟩] 9))
  go_enter Try.func35, Try.ntmps35
  go_wp2_with fail
  refine (try_none _ _).mono ?_
  rintro e w1 ⟨rfl, HB⟩
  have H2 := H1.below HB
  clear H1 hmf
  go_wp2
  go_ret
  exact ⟨rfl, H2⟩

theorem rText_off {W w : World} {l : List SL} (p : Nat) (high : Int) (H : Sat W w (pt p offC 78 :: l)) :
    Calls Try.prog 35 #[.pointer (some ⟨p, 0, none⟩), .int .i64 high] w fun e w' => e = .returned (.string ⟨#[]⟩) ∧ Sat W w' (pt p offC 78 :: l) := by
  have hmf : ∀ (fn : Fn) (first cap : Array Value) (w : World), (Instr.makeFunc fn first cap).run Try.prog w = .ok (.func fn first cap) w := fun _ _ _ _ => rfl
  have H1 := (((H.alloc' (.cells #[.pointer (some ⟨p, 0, none⟩)] 52)).alloc' (.cells #[.int .i64 high] 3)).alloc' (.cells #[.string ⟨#[]⟩] 9))
  go_enter Try.func35, Try.ntmps35
  go_wp2_with fail
  refine (try_off p _ _ (H1.cell 0)).mono ?_
  rintro e w1 ⟨rfl, HB⟩
  have H2 := H1.below HB
  clear H1 hmf
  go_wp2
  go_ret
  exact ⟨rfl, H2⟩

theorem rAt_none (w : World) : Calls Try.prog 33 #[.pointer none] w fun e w' => e = .returned (.int .i64 0) ∧ w = w' := by
  go_enter Try.func33, Try.ntmps33
  go_wp2
  go_ret
  exact ⟨rfl, rfl⟩
theorem rAt_off {W w : World} {l : List SL} (p : Nat) (H : Sat W w (pt p offC 78 :: l)) : Calls Try.prog 33 #[.pointer (some ⟨p, 0, none⟩)] w fun e w' => e = .returned (.int .i64 0) ∧ w = w' := by
  have hc : w.cell? ⟨p, 0, none⟩ = some (.bool false) := H.cell 0
  go_enter Try.func33, Try.ntmps33
  go_wp2_with (go_at_call 60; refine (none_any _ _ false _ hc).mono ?_; rintro e w' ⟨rfl, rfl⟩)
  go_ret
  exact ⟨rfl, rfl⟩

theorem rLeft_none (w : World) : Calls Try.prog 36 #[.pointer none] w fun e w' => e = .returned (.int .i64 0) ∧ w = w' := by
  go_enter Try.func36, Try.ntmps36
  go_wp2
  go_ret
  exact ⟨rfl, rfl⟩
theorem rLeft_off {W w : World} {l : List SL} (p : Nat) (H : Sat W w (pt p offC 78 :: l)) : Calls Try.prog 36 #[.pointer (some ⟨p, 0, none⟩)] w fun e w' => e = .returned (.int .i64 0) ∧ w = w' := by
  have hc : w.cell? ⟨p, 0, none⟩ = some (.bool false) := H.cell 0
  go_enter Try.func36, Try.ntmps36
  go_wp2_with (go_at_call 60; refine (none_any _ _ false _ hc).mono ?_; rintro e w' ⟨rfl, rfl⟩)
  go_ret
  exact ⟨rfl, rfl⟩

theorem rFault_none {W w : World} {l : List SL} (H : Sat W w l) : Calls Try.prog 34 #[.pointer none] w fun e w' => e = .returned (.agg #[.int .i64 1, .int .i64 0]) ∧ Sat W w' l := by
  go_enter Try.func34, Try.ntmps34
  go_wp2
  exact bodyPost_ret (v := .agg #[.int .i64 1, .int .i64 0]) (by simp [results, Try.results34, go_sem]) rfl ⟨rfl, H.alloc' _⟩
theorem rFault_off {W w : World} {l : List SL} (p : Nat) (H : Sat W w (pt p offC 78 :: l)) : Calls Try.prog 34 #[.pointer (some ⟨p, 0, none⟩)] w fun e w' => e = .returned (.agg #[.int .i64 1, .int .i64 0]) ∧ Sat W w' (pt p offC 78 :: l) := by
  have hc : (w.alloc (.cells #[.int .i64 0, .int .i64 0] 58)).cell? ⟨p, 0, none⟩ = some (.bool false) := (H.alloc' _).cell 0
  go_enter Try.func34, Try.ntmps34
  go_wp2_with (go_at_call 60; refine (none_any _ _ false _ hc).mono ?_; rintro e w' ⟨rfl, rfl⟩)
  exact bodyPost_ret (v := .agg #[.int .i64 1, .int .i64 0]) (by simp [results, Try.results34, go_sem]) rfl ⟨rfl, H.alloc' _⟩
end Go.Proofs.Ytkfeejlpgcmilaa
