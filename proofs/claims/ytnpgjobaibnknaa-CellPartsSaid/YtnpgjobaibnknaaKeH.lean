/- Writes: may one be; one laid on the program's table. -/
import Derived.Test.YtnpgjobaibnknaaKeG
import Derived.Test.YtnpgjobaibnknaaRtO
import Derived.Test.YtnpgjobaibnknaaKdM
namespace Go.Proofs.Ytnpgjobaibnknaa
open Go.RowKit Go.Rt Go.Maps

set_option maxRecDepth 100000 in
set_option maxHeartbeats 4000000 in
theorem cmay_any {W w : World} {L : List SL} (x : Wt) (H : Sat W w L) :
    Calls Try.prog 74 #[.agg #[.string ⟨x.k.toArray⟩, .string ⟨x.v.toArray⟩, .bool x.d]] w fun e w' => e = .returned (.bool (mayW x)) ∧ Sat W w' L := by
  obtain ⟨k, v, d⟩ := x
  dsimp only
  have H1 := H.alloc #[.string ⟨k.toArray⟩, .string ⟨v.toArray⟩, .bool d] 51
  generalize hw0 : w.alloc (.cells #[.string ⟨k.toArray⟩, .string ⟨v.toArray⟩, .bool d] 51) = w0 at H1
  have c0 : w0.cell? ⟨w.heap.size, 0, none⟩ = some (.string ⟨k.toArray⟩) := H1.cell 0
  have c1 : w0.cell? ⟨w.heap.size, 1, none⟩ = some (.string ⟨v.toArray⟩) := H1.cell 1
  have c2 : w0.cell? ⟨w.heap.size, 2, none⟩ = some (.bool d) := H1.cell 2
  have QK := Lib.hid (fun v (hv : keyB k = v) (n : Nat) => cKey_is k v hv w0)
  unfold mayW
  dsimp only
  go_enter Try.func74, Try.ntmps74
  cases hk : keyB k with
  | false =>
    have QK1 := Lib.hid (QK.out false hk)
    clear QK hk
    go_wp2_with fail
    refine (QK1.out 0).mono ?_
    rintro e _ ⟨rfl, rfl⟩
    go_wp2
    go_ret
    exact ⟨rfl, H1.tail⟩
  | true =>
    have QK1 := Lib.hid (QK.out true hk)
    clear QK hk
    by_cases hv : v.length ≤ 64
    · have hv2 : decide ((v.length : Int) ≤ 64) = true := decide_eq_true (by omega)
      rw [decide_eq_true hv]
      clear hv
      cases d with
      | false =>
        go_wp2_with fail
        refine (QK1.out 0).mono ?_
        rintro e _ ⟨rfl, rfl⟩
        go_wp2
        go_ret
        exact ⟨rfl, H1.tail⟩
      | true =>
        by_cases hn : v = []
        · have e1 : v.isEmpty = true := by rw [hn]; rfl
          rw [decide_eq_true hn]
          clear hn
          go_wp2_with fail
          refine (QK1.out 0).mono ?_
          rintro e _ ⟨rfl, rfl⟩
          go_wp2
          go_ret
          exact ⟨rfl, H1.tail⟩
        · have e1 : v.isEmpty = false := by cases v with | nil => exact absurd rfl hn | cons x l => rfl
          rw [decide_eq_false hn]
          clear hn
          go_wp2_with fail
          refine (QK1.out 0).mono ?_
          rintro e _ ⟨rfl, rfl⟩
          go_wp2
          go_ret
          exact ⟨rfl, H1.tail⟩
    · have hv2 : decide ((v.length : Int) ≤ 64) = false := decide_eq_false (by omega)
      rw [decide_eq_false hv]
      clear hv
      go_wp2_with fail
      refine (QK1.out 0).mono ?_
      rintro e _ ⟨rfl, rfl⟩
      go_wp2
      go_ret
      exact ⟨rfl, H1.tail⟩
set_option maxRecDepth 100000 in
set_option maxHeartbeats 4000000 in
theorem qMay_any {W w : World} {L : List SL} (x : Wt) (H : Sat W w L) :
    Calls Try.prog 82 #[.agg #[.string ⟨x.k.toArray⟩, .string ⟨x.v.toArray⟩, .bool x.d]] w fun e w' => e = .returned (.bool (mayW x)) ∧ Sat W w' L := by
  obtain ⟨k, v, d⟩ := x
  dsimp only
  have H1 := H.alloc #[.string ⟨k.toArray⟩, .string ⟨v.toArray⟩, .bool d] 51
  generalize hw0 : w.alloc (.cells #[.string ⟨k.toArray⟩, .string ⟨v.toArray⟩, .bool d] 51) = w0 at H1
  have c0 : w0.cell? ⟨w.heap.size, 0, none⟩ = some (.string ⟨k.toArray⟩) := H1.cell 0
  have c1 : w0.cell? ⟨w.heap.size, 1, none⟩ = some (.string ⟨v.toArray⟩) := H1.cell 1
  have c2 : w0.cell? ⟨w.heap.size, 2, none⟩ = some (.bool d) := H1.cell 2
  have QK := Lib.hid (fun v (hv : keyB k = v) (n : Nat) => qKey_is k v hv w0)
  unfold mayW
  dsimp only
  go_enter Try.func82, Try.ntmps82
  cases hk : keyB k with
  | false =>
    have QK1 := Lib.hid (QK.out false hk)
    clear QK hk
    go_wp2_with fail
    refine (QK1.out 0).mono ?_
    rintro e _ ⟨rfl, rfl⟩
    go_wp2
    go_ret
    exact ⟨rfl, H1.tail⟩
  | true =>
    have QK1 := Lib.hid (QK.out true hk)
    clear QK hk
    by_cases hv : v.length ≤ 64
    · have hv2 : decide ((v.length : Int) ≤ 64) = true := decide_eq_true (by omega)
      rw [decide_eq_true hv]
      clear hv
      cases d with
      | false =>
        go_wp2_with fail
        refine (QK1.out 0).mono ?_
        rintro e _ ⟨rfl, rfl⟩
        go_wp2
        go_ret
        exact ⟨rfl, H1.tail⟩
      | true =>
        by_cases hn : v = []
        · have e1 : v.isEmpty = true := by rw [hn]; rfl
          rw [decide_eq_true hn]
          clear hn
          go_wp2_with fail
          refine (QK1.out 0).mono ?_
          rintro e _ ⟨rfl, rfl⟩
          go_wp2
          go_ret
          exact ⟨rfl, H1.tail⟩
        · have e1 : v.isEmpty = false := by cases v with | nil => exact absurd rfl hn | cons x l => rfl
          rw [decide_eq_false hn]
          clear hn
          go_wp2_with fail
          refine (QK1.out 0).mono ?_
          rintro e _ ⟨rfl, rfl⟩
          go_wp2
          go_ret
          exact ⟨rfl, H1.tail⟩
    · have hv2 : decide ((v.length : Int) ≤ 64) = false := decide_eq_false (by omega)
      rw [decide_eq_false hv]
      clear hv
      go_wp2_with fail
      refine (QK1.out 0).mono ?_
      rintro e _ ⟨rfl, rfl⟩
      go_wp2
      go_ret
      exact ⟨rfl, H1.tail⟩

/-- How a table's value reads. -/
def Rv (v : Value) : Option (DataW Unit × List MemPlace) := match v with
  | .agg a => match a.toList with
    | [.string s] => some (.lit (.string s.data.toList), [])
    | _ => none
  | _ => none
theorem Rv_mk (x : Str) : Rv (.agg #[.string ⟨x.toArray⟩]) = some (.lit (.string x), []) := rfl
theorem Rv_inv {v : Value} {d : DataW Unit} {ps : List MemPlace} (h : Rv v = some (d, ps)) : ∃ x : Str, v = .agg #[.string ⟨x.toArray⟩] ∧ d = .lit (.string x) := by
  unfold Rv at h
  split at h
  · rename_i a
    split at h
    · rename_i s hs
      refine ⟨s.data.toList, ?_, by cases h; rfl⟩
      have : a = #[.string s] := by apply Array.toList_inj.1; rw [hs]
      rw [this]
    · cases h
  · cases h
/-- What a table has of a key, as a datum. -/
def litO (o : Option Str) : Option (DataW Unit) := o.map fun v => .lit (.string v)
abbrev tabS (b n : Nat) (D : DataW Unit) : SL := mapS Try.prog 9 Rv b n D

set_option maxRecDepth 100000 in
set_option maxHeartbeats 4000000 in
theorem cwrite_any {W w : World} {L : List SL} (x : Wt) (b n : Nat) (D : DataW Unit) (hk : x.k.length ≤ maxLen) (hn : n < maxLen) (H : Sat W w (tabS b n D :: L)) :
    Calls Try.prog 75 #[.agg #[.map (some b)], .agg #[.string ⟨x.k.toArray⟩, .string ⟨x.v.toArray⟩, .bool x.d]] w fun e w' => e = .returned (.tuple #[]) ∧ Sat W w' (tabS b (n + 1) (if x.d then D.del (.string x.k) else D.put (.string x.k) (.lit (.string x.v))) :: L) := by
  obtain ⟨k, v, d⟩ := x
  dsimp only at hk ⊢
  have hkey := key_str k hk
  have H2 := (H.alloc #[.map (some b)] 86).alloc #[.string ⟨k.toArray⟩, .string ⟨v.toArray⟩, .bool d] 51
  simp only [World.size_alloc] at H2
  have H3 := H2.pull 2
  clear H H2
  go_enter Try.func75, Try.ntmps75
  cases d with
  | true =>
    go_wp2_with (first
      | (refine wpList_map_delete rfl (.tmp 7) (.tmp 9) 84 9 rfl rfl 88 (string_keyed Try.underlying9) Try.underlying84 rfl H3 _ (.string k) rfl hkey ?_
         intro w4 H4))
    exact ⟨rfl, _, results_none rfl _ _ _, rfl, H4.swap.tail.swap.tail.map_mono (by omega)⟩
  | false =>
    go_wp2_with (first
      | (refine wpList_map_store rfl (.tmp 11) (.tmp 13) (.tmp 16) 84 rfl 88 (string_keyed Try.underlying9) Try.underlying84 rfl H3 hn _ _ (.string k) rfl rfl hkey (.lit (.string v)) (Rv_mk v) ?_
         intro w4 H4))
    go_end0
    exact ⟨rfl, H4.swap.tail.swap.tail⟩
end Go.Proofs.Ytnpgjobaibnknaa
