/- The laws' own helpers over package word: one number's bytes, a wrong reading, awake. -/
import Derived.Test.YtflcmhmbmippfaaWdI
namespace Go.Proofs.Ytflcmhmbmippfaa
open Go.RowKit Go.Rt

def noID : List UInt8 := List.replicate 32 0
set_option maxRecDepth 100000 in
theorem rFault_any {W w : World} {l : List SL} (p : Nat) (bs : List UInt8) (pl : Nat) (fe fa : Int) (H : Sat W w (rdr p bs pl fe fa :: l)) :
    Calls Try.prog 48 #[.pointer (some ⟨p, 0, none⟩)] w fun e w' => e = .returned (.agg #[.int .i64 fe, .int .i64 fa]) ∧ Sat W w' (rdr p bs pl fe fa :: l) := by
  obtain ⟨A, c, H1⟩ := rdr_open H
  have hlt := H1.lt
  have hc0 : w.cell? ⟨p, 0, none⟩ = some (.bool true) := H1.cell 0
  have hc2 : w.cell? ⟨p, 2, none⟩ = some (.int .i64 fe) := H1.cell 2
  have hc3 : w.cell? ⟨p, 3, none⟩ = some (.int .i64 fa) := H1.cell 3
  have k0 : ∀ o, (w.alloc o).cell? ⟨p, 0, none⟩ = some (.bool true) := fun o => by rw [World.cell?_alloc_lt _ _ _ hlt]; exact hc0
  go_enter Try.func48, Try.ntmps48
  go_wp2_with (go_at_call 81; refine (none_any _ _ true _ (k0 _)).mono ?_; rintro e w' ⟨rfl, rfl⟩)
  exact bodyPost_ret (v := .agg #[.int .i64 fe, .int .i64 fa]) (by simp [results, Try.results48, go_sem]) rfl ⟨rfl, H.alloc' _⟩

end Go.Proofs.Ytflcmhmbmippfaa
