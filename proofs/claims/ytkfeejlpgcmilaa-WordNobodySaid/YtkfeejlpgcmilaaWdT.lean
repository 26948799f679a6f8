/- The laws' own helper over package word: write at a writer that is nil, or not made by New. -/
import Derived.Test.YtkfeejlpgcmilaaWdR
import Derived.Test.YtkfeejlpgcmilaaWdI
namespace Go.Proofs.Ytkfeejlpgcmilaa
open Go.RowKit Go.Rt

abbrev offW : Array Value := #[.bool false, .slice none 0 0, .int .i64 0, .int .i64 0]
theorem lwrite_none {W w : World} {l : List SL} (x : Th) (hx : x.d.length = 32) (H : Sat W w (l)) :
    Calls Try.prog 15 #[.pointer none, x.v] w fun e w' => e = .returned (.tuple #[]) ∧ Sat W w' (l) := by
  obtain ⟨k, n, s, d⟩ := x
  have hd : d.length = 32 := hx
  unfold Th.v
  obtain ⟨cs, hcs⟩ : ∃ cs, cs = Th.cs ⟨k, n, s, d⟩ := ⟨_, rfl⟩
  rw [← hcs]
  have g0 : cs[0]? = some (.int .i64 k) := by rw [hcs]; rfl
  have g1 : cs[1]? = some (.int .i64 n) := by rw [hcs]; rfl
  have g2 : cs[2]? = some (.string s) := by rw [hcs]; rfl
  have HC := Lib.hid hcs
  clear hcs
  go_enter Try.func15, Try.ntmps15
  have H2 : Sat W (w.alloc (.cells cs.toArray 35)) (l) := H.alloc' _
  by_cases hk0 : k = 0
  · subst hk0
    go_wp2_with (go_at_call 52; refine (wInt_none n _).mono ?_; rintro e w' ⟨rfl, rfl⟩)
    go_end0
    exact ⟨rfl, H2⟩
  have hk0' : decide (k = 0) = false := by simpa using hk0
  by_cases hk1 : k = 1
  · subst hk1
    go_wp2_with (go_at_call 53; refine (wText_none s _).mono ?_; rintro e w' ⟨rfl, rfl⟩)
    go_end0
    exact ⟨rfl, H2⟩
  have hk1' : decide (k = 1) = false := by simpa using hk1
  by_cases hk2 : k = 2
  · subst hk2
    have hr : Rd (w.alloc (.cells cs.toArray 35)) (some ⟨w.heap.size, 0 + 3, none⟩) (cs.drop 3) := (Rd.new w cs.toArray 35).drop 3
    have hdr : cs.drop 3 = d.map B := by rw [HC.out]; rfl
    rw [hdr] at hr
    clear hdr
    have hL : (Try.prog.info? 33).map (·.size) = some (d.map B).length := by rw [List.length_map, hd]; kernel_rfl
    have HL := Lib.hid hL
    clear hL
    go_wp2_with (first
      | (go_at_call 54; refine (wID_none d _).mono ?_; rintro e w' ⟨rfl, H3⟩)
      | refine wpList_load_rd rfl (.tmp 21) 33 rfl w.heap.size 3 (d.map B) (by rw [Try.underlying33]) HL.out (by simp [Act.eval]) hr ?_)
    go_end0
    exact ⟨rfl, H2.below H3⟩
  have hk2' : decide (k = 2) = false := by simpa using hk2
  go_wp2
  go_end0
  exact ⟨rfl, H2⟩
theorem lwrite_off {W w : World} {l : List SL} {p : Nat} (x : Th) (hx : x.d.length = 32) (H : Sat W w (pt p offW 75 :: l)) :
    Calls Try.prog 15 #[.pointer (some ⟨p, 0, none⟩), x.v] w fun e w' => e = .returned (.tuple #[]) ∧ Sat W w' (pt p offW 75 :: l) := by
  obtain ⟨k, n, s, d⟩ := x
  have hd : d.length = 32 := hx
  unfold Th.v
  obtain ⟨cs, hcs⟩ : ∃ cs, cs = Th.cs ⟨k, n, s, d⟩ := ⟨_, rfl⟩
  rw [← hcs]
  have g0 : cs[0]? = some (.int .i64 k) := by rw [hcs]; rfl
  have g1 : cs[1]? = some (.int .i64 n) := by rw [hcs]; rfl
  have g2 : cs[2]? = some (.string s) := by rw [hcs]; rfl
  have HC := Lib.hid hcs
  clear hcs
  go_enter Try.func15, Try.ntmps15
  have H2 : Sat W (w.alloc (.cells cs.toArray 35)) (pt p offW 75 :: l) := H.alloc' _
  have hc0 := H2.cell 0
  by_cases hk0 : k = 0
  · subst hk0
    go_wp2_with (go_at_call 52; refine (wInt_off p n _ hc0).mono ?_; rintro e w' ⟨rfl, rfl⟩)
    go_end0
    exact ⟨rfl, H2⟩
  have hk0' : decide (k = 0) = false := by simpa using hk0
  by_cases hk1 : k = 1
  · subst hk1
    go_wp2_with (go_at_call 53; refine (wText_off p s _ hc0).mono ?_; rintro e w' ⟨rfl, rfl⟩)
    go_end0
    exact ⟨rfl, H2⟩
  have hk1' : decide (k = 1) = false := by simpa using hk1
  by_cases hk2 : k = 2
  · subst hk2
    have hr : Rd (w.alloc (.cells cs.toArray 35)) (some ⟨w.heap.size, 0 + 3, none⟩) (cs.drop 3) := (Rd.new w cs.toArray 35).drop 3
    have hdr : cs.drop 3 = d.map B := by rw [HC.out]; rfl
    rw [hdr] at hr
    clear hdr
    have hL : (Try.prog.info? 33).map (·.size) = some (d.map B).length := by rw [List.length_map, hd]; kernel_rfl
    have HL := Lib.hid hL
    clear hL
    go_wp2_with (first
      | (go_at_call 54; refine (wID_off p d _ hc0).mono ?_; rintro e w' ⟨rfl, H3⟩)
      | refine wpList_load_rd rfl (.tmp 21) 33 rfl w.heap.size 3 (d.map B) (by rw [Try.underlying33]) HL.out (by simp [Act.eval]) hr ?_)
    go_end0
    exact ⟨rfl, H2.below H3⟩
  have hk2' : decide (k = 2) = false := by simpa using hk2
  go_wp2
  go_end0
  exact ⟨rfl, H2⟩
end Go.Proofs.Ytkfeejlpgcmilaa
