/- keys.Among, keys.Meets: the program's own answers. -/
import Derived.Test.YtnpgjobaibnknaaKdI
namespace Go.Proofs.Ytnpgjobaibnknaa
open Go.RowKit Go.Rt

def amongS (l : List Str) (s : List Sp) : List Str := (sortS l).filter (hasSp s)
def meetsB (l some : List Str) (s : List Sp) : Bool := decide (0 < (bothS l some).length) || decide (0 < (amongS l s).length)
theorem among_len (l : List Str) (s : List Sp) : (amongS l s).length ≤ l.length := Nat.le_trans (List.length_filter_le _ _) (sortS_len l)

set_option maxRecDepth 100000 in
set_option maxHeartbeats 4000000 in
theorem eAmong_any {W w : World} {L : List SL} (A A' : Option Addr) (c c' : Nat) (l : List Str) (s : List Sp) (hl : l.length ≤ 1000000000) (hxl : ∀ x ∈ l, x.length ≤ maxLen) (hs : s.length ≤ maxLen) (hr : RdL W L A (tsC l)) (hr' : RdL W L A' (spC s)) (H : Sat W w L) :
    Calls Try.prog 34 #[.slice A l.length c, .slice A' s.length c'] w fun e w' => ∃ A2 c2, e = .returned (.slice A2 (amongS l s).length c2) ∧ Sat W w' (seenS 9 (.slice A2 (amongS l s).length c2) (amongS l s).length (tsC (amongS l s)) :: L) := by
  have H1 := H.alloc #[.slice A' s.length c'] 34
  have HS := Lib.hid (eSort_sat A c l hl hxl (hr.tail _ H1) H1)
  have HD := Lib.hid (fun (w1 : World) (A1 : Option Addr) (c1 : Nat) (h : Sat W w1 (seenS 9 (.slice A1 (sortS l).length c1) (sortS l).length (tsC (sortS l)) :: pt w.heap.size #[.slice A' s.length c'] 34 :: L)) => eDeleteFunc_any (W := W) (w := w1) w.heap.size A' A1 c' c1 s (sortS l) (by have := sortS_len l; omega) hs hr'.tail (fun w' h => h.cell 0) h)
  unfold amongS
  clear hr hr' hl hs hxl
  go_enter Try.func34, Try.ntmps34
  go_wp2_with fail
  refine HS.out.mono ?_
  rintro e w1 ⟨A1, c1, rfl, H2⟩
  clear HS
  go_wp2_with fail
  refine (HD.out _ _ _ H2).mono ?_
  rintro e w2 ⟨A2, rfl, H3⟩
  clear HD
  go_wp2
  go_ret
  exact ⟨A2, c1, rfl, H3.swap.tail⟩

set_option maxRecDepth 100000 in
set_option maxHeartbeats 4000000 in
theorem eMeets_any {W w : World} {L : List SL} (A A' A'' : Option Addr) (c c' c'' : Nat) (l some : List Str) (s : List Sp) (hl : l.length ≤ 100000000) (hxl : ∀ x ∈ l, x.length ≤ maxLen) (ho : some.length ≤ 100000000) (hxo : ∀ x ∈ some, x.length ≤ maxLen) (hs : s.length ≤ maxLen) (hr : RdL W L A (tsC l)) (hr' : RdL W L A' (tsC some)) (hr'' : RdL W L A'' (spC s)) (H : Sat W w L) :
    Calls Try.prog 36 #[.slice A l.length c, .slice A' some.length c', .slice A'' s.length c''] w fun e w' => e = .returned (.bool (meetsB l some s)) ∧ Sat W w' L := by
  have HB := Lib.hid (eBoth_any A A' c c' l some hl ho hxl hxo hr hr' H)
  have HA := Lib.hid (fun (w1 : World) (L1 : List SL) (h1 : RdL W L1 A (tsC l)) (h2 : RdL W L1 A'' (spC s)) (h : Sat W w1 L1) => eAmong_any (W := W) (w := w1) (L := L1) A A'' c c'' l s (by omega) hxl hs h1 h2 h)
  unfold meetsB
  clear hl ho hs hxl hxo
  generalize amongS l s = am at *
  go_enter Try.func36, Try.ntmps36
  by_cases hb : 0 < (bothS l some).length
  · have hb1 : (0 : Int) < ((bothS l some).length : Int) := by omega
    rw [decide_eq_true hb]
    go_wp2_with fail
    refine HB.out.mono ?_
    rintro e w1 ⟨A1, c1, rfl, H2⟩
    clear HB HA hb
    generalize (bothS l some).length = n at *
    go_wp2
    go_ret
    exact ⟨rfl, H2.tail⟩
  · have hb1 : (bothS l some).length = 0 := by omega
    rw [decide_eq_false hb]
    rw [hb1] at HB
    go_wp2_with fail
    refine HB.out.mono ?_
    rintro e w1 ⟨A1, c1, rfl, H2⟩
    have HA1 := Lib.hid (HA.out w1 _ hr.tail hr''.tail H2)
    clear HB HA hb hr hr' hr'' hb1
    go_wp2_with fail
    refine HA1.out.mono ?_
    rintro e w2 ⟨A2, c2, rfl, H3⟩
    clear HA1
    go_wp2
    go_ret
    refine ⟨?_, H3.tail.tail⟩
    simp
end Go.Proofs.Ytnpgjobaibnknaa
