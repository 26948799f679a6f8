/- The laws' own helpers over package word: one number's bytes, a wrong reading, awake. -/
import Derived.Test.YtkfeejlpgcmilaaWdI
namespace Go.Proofs.Ytkfeejlpgcmilaa
open Go.RowKit Go.Rt

def noID : List UInt8 := List.replicate 32 0
theorem is_any {W w : World} {l : List SL} (n : Int) (hn : n ≤ 9223372036854775807) (A : Option Addr) (c : Nat) (want : List UInt8) (hr : RdL W l A (want.map B)) (H : Sat W w l) :
    Calls Try.prog 31 #[.int .i64 n, .slice A want.length c] w fun e w' => e = .returned (.bool (!decide (n < 0) && (sev n.toNat == want))) ∧ Sat W w' l := by
  have hok : ∀ x ∈ [Th.mk 0 n ⟨#[]⟩ noID], x.Ok := by
    intro x hx
    simp only [List.mem_singleton] at hx
    subst hx
    exact ⟨hn, Nat.zero_le _, rfl⟩
  have hput : putAll [Th.mk 0 n ⟨#[]⟩ noID] = wrInt n [] := rfl
  have hbad : badAll [Th.mk 0 n ⟨#[]⟩ noID] = decide (n < 0) := by simp [badAll, Th.bad]
  go_enter Try.func31, Try.ntmps31
  go_wp2_with fail
  have H1 : Sat W (w.alloc (.cells (thC [Th.mk 0 n ⟨#[]⟩ noID]).toArray 35)) _ := H.alloc _ _
  refine (all_any (some ⟨w.heap.size, 0, none⟩) 1 [Th.mk 0 n ⟨#[]⟩ noID] hok (by simp [wts, Th.wt, ByteArray.size]) (by simp) RdL.pt H1).mono ?_
  rintro e w1 h1
  unfold AllPost at h1
  rw [hput, hbad] at h1
  clear H1 hput hbad
  by_cases h0 : n < 0
  · rw [if_pos (by simpa using h0)] at h1
    obtain ⟨rfl, H2⟩ := h1
    go_wp2
    go_ret
    exact ⟨by simp [h0], H2.tail⟩
  · have e0 : wrInt n [] = sev n.toNat := by rw [wrInt, if_neg h0]; rfl
    rw [if_neg (by simpa using h0), e0] at h1
    obtain ⟨A1, c1, rfl, H2⟩ := h1
    have h2 : Rd w1 A (want.map B) := hr _ H2.tail.tail
    have h3 := H2.rd
    go_wp2_with (go_at_call 23; refine (same_any A1 A c1 c (sev n.toNat) want _ h3 h2).mono ?_; rintro e w2 ⟨rfl, rfl⟩)
    go_ret
    exact ⟨by simp [h0], H2.tail.tail⟩

theorem rFault_any {W w : World} {l : List SL} (p : Nat) (bs : List UInt8) (pl : Nat) (fe fa : Int) (H : Sat W w (rdr p bs pl fe fa :: l)) :
    Calls Try.prog 34 #[.pointer (some ⟨p, 0, none⟩)] w fun e w' => e = .returned (.agg #[.int .i64 fe, .int .i64 fa]) ∧ Sat W w' (rdr p bs pl fe fa :: l) := by
  obtain ⟨A, c, H1⟩ := rdr_open H
  have hlt := H1.lt
  have hc0 : w.cell? ⟨p, 0, none⟩ = some (.bool true) := H1.cell 0
  have hc2 : w.cell? ⟨p, 2, none⟩ = some (.int .i64 fe) := H1.cell 2
  have hc3 : w.cell? ⟨p, 3, none⟩ = some (.int .i64 fa) := H1.cell 3
  have k0 : ∀ o, (w.alloc o).cell? ⟨p, 0, none⟩ = some (.bool true) := fun o => by rw [World.cell?_alloc_lt _ _ _ hlt]; exact hc0
  go_enter Try.func34, Try.ntmps34
  go_wp2_with (go_at_call 60; refine (none_any _ _ true _ (k0 _)).mono ?_; rintro e w' ⟨rfl, rfl⟩)
  exact bodyPost_ret (v := .agg #[.int .i64 fe, .int .i64 fa]) (by simp [results, Try.results34, go_sem]) rfl ⟨rfl, H.alloc' _⟩

theorem wrong_any {W w : World} {l : List SL} (A : Option Addr) (c : Nat) (bs : List UInt8) (er at_ : Int) (hb : bs.length ≤ 1000000000) (hr : RdL W l A (bs.map B))
    (pl : Nat) (ht : toldInt bs 0 0 0 0 9223372036854775807 5 = ⟨0, pl, er, at_⟩) (H : Sat W w l) :
    Calls Try.prog 37 #[.slice A bs.length c, .int .i64 er, .int .i64 at_] w fun e w' => e = .returned (.bool true) ∧ Sat W w' l := by
  have HT := Lib.hid ht
  clear ht
  go_enter Try.func37, Try.ntmps37
  go_wp2_with (go_at_call 30; refine (open_any A c bs hr hb H).mono ?_; rintro e w1 ⟨p, rfl, H1⟩)
  have HI := Lib.hid (rInt_any p bs 0 0 0 0 9223372036854775807 (Nat.zero_le _) hb (fun _ => rfl) H1)
  rw [HT.out] at HI
  go_wp2_with fail
  refine HI.out.mono ?_
  rintro e w2 ⟨rfl, H2⟩
  go_wp2_with (go_at_call 34; refine (rFault_any p bs pl er at_ H2).mono ?_; rintro e w3 ⟨rfl, H3⟩)
  go_ret
  exact ⟨by simp, H3.tail⟩

theorem awake_any {W w : World} {l : List SL} (H : Sat W w l) :
    Calls Try.prog 14 #[] w fun e w' => e = .returned (.bool true) ∧ Sat W w' l := by
  go_enter Try.func14, Try.ntmps14
  have H1 : Sat W (w.alloc (.cells (([0] : List UInt8).map B).toArray 5)) _ := H.alloc _ _
  go_wp2_with fail
  refine (is_any 0 (by decide) (some ⟨w.heap.size, 0, none⟩) 1 [0] RdL.pt H1).mono ?_
  rintro e w1 ⟨rfl, H2⟩
  rw [show (!decide ((0 : Int) < 0) && (sev (0 : Int).toNat == [0])) = true by decide]
  clear H1
  have H3 : Sat W (w1.alloc (.cells (([128, 1] : List UInt8).map B).toArray 5)) _ := H2.tail.alloc _ _
  go_wp2_with fail
  refine (is_any 128 (by decide) (some ⟨w1.heap.size, 0, none⟩) 2 [128, 1] RdL.pt H3).mono ?_
  rintro e w2 ⟨rfl, H4⟩
  rw [show (!decide ((128 : Int) < 0) && (sev (128 : Int).toNat == [128, 1])) = true by decide]
  clear H2 H3
  have H5 : Sat W (w2.alloc (.cells (([128, 0] : List UInt8).map B).toArray 5)) _ := H4.tail.alloc _ _
  go_wp2_with fail
  refine (wrong_any (some ⟨w2.heap.size, 0, none⟩) 2 [128, 0] 4 0 (by decide) RdL.pt 0 (by kernel_rfl) H5).mono ?_
  rintro e w3 ⟨rfl, H6⟩
  clear H4 H5
  have H7 : Sat W (w3.alloc (.cells (([128] : List UInt8).map B).toArray 5)) _ := H6.tail.alloc _ _
  go_wp2_with fail
  refine (wrong_any (some ⟨w3.heap.size, 0, none⟩) 1 [128] 4 1 (by decide) RdL.pt 0 (by kernel_rfl) H7).mono ?_
  rintro e w4 ⟨rfl, H8⟩
  clear H6 H7
  have e1 : (sev 16384).length = 3 := by decide
  have e2 : bF 8 258 = [0, 0, 0, 0, 0, 0, 1, 2] := by decide
  go_wp2_with fail
  refine (size_any 16384 (by decide) _).mono ?_
  rintro e w5 ⟨rfl, rfl⟩
  rw [e1]
  go_wp2_with fail
  refine (val_any 258 (by decide) _).mono ?_
  rintro e w5 ⟨rfl, H9⟩
  rw [e2]
  go_wp2
  go_ret
  exact ⟨rfl, H8.tail.below H9⟩
end Go.Proofs.Ytkfeejlpgcmilaa
