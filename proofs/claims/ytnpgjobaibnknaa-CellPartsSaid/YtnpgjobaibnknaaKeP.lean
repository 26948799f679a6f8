/- The span of a key alone, and up to a key. -/
import Derived.Test.YtnpgjobaibnknaaKeO
namespace Go.Proofs.Ytnpgjobaibnknaa
open Go.RowKit Go.Rt

theorem infoSp : (Try.prog.info? 54).map (fun i => (i.zero, i.size, i.bytes)) = some (some (.agg #[.string ⟨#[]⟩, .string ⟨#[]⟩]), 2, 32) := by kernel_rfl
theorem sp_size : (Try.prog.info? 54).map (·.size) = some 2 := by kernel_rfl
def uptoS (s : Sp) (k : Str) : Sp := if belowB s.hi (k ++ [0]) then ⟨s.lo, k ++ [0]⟩ else s
def Sp.v (s : Sp) : Value := .agg s.cs.toArray

theorem str_snoc (k : Str) (x : UInt8) : (⟨k.toArray⟩ : ByteArray) ++ ⟨#[x]⟩ = ⟨(k ++ [x]).toArray⟩ := by
  apply ByteArray.ext
  simp
theorem sp_field0 (a b : ByteArray) (w : World) : (Instr.field 54 (.agg #[.string a, .string b]) 0).run Try.prog w = .ok (.string a) w := by kernel_rfl
theorem sp_field1 (a b : ByteArray) (w : World) : (Instr.field 54 (.agg #[.string a, .string b]) 1).run Try.prog w = .ok (.string b) w := by kernel_rfl
set_option maxRecDepth 100000 in
set_option maxHeartbeats 4000000 in
theorem ssOne_any {W w : World} {L : List SL} (k : Str) (hk : k.length ≤ 1000000) (H : Sat W w L) :
    Calls Try.prog 81 #[.string ⟨k.toArray⟩] w fun e w' => e = .returned (.agg #[.string ⟨k.toArray⟩, .string ⟨(k ++ [0]).toArray⟩]) ∧ Sat W w' L := by
  have H2 := H.alloc #[.string ⟨k.toArray⟩, .string (⟨k.toArray⟩ ++ ⟨#[0]⟩)] 54
  go_enter Try.func81, Try.ntmps81
  go_wp2_with fail
  exact bodyPost_ret (v := .agg #[.string ⟨k.toArray⟩, .string (⟨k.toArray⟩ ++ ⟨#[0]⟩)]) (results_cell_row Try.results81 _ _ w.heap.size 54 #[.string ⟨k.toArray⟩, .string (⟨k.toArray⟩ ++ ⟨#[0]⟩)] (0, 0) _ rfl H2.heap Try.underlying54 rfl sp_size) rfl ⟨by rw [str_snoc], H2.tail⟩
set_option maxRecDepth 100000 in
set_option maxHeartbeats 4000000 in
theorem ssUpto_any {W w : World} {L : List SL} (lo hi k : Str) (hk : k.length ≤ 1000000) (H : Sat W w L) :
    Calls Try.prog 55 #[.agg #[.string ⟨lo.toArray⟩, .string ⟨hi.toArray⟩], .string ⟨k.toArray⟩] w fun e w' => e = .returned (.agg #[.string ⟨(uptoS ⟨lo, hi⟩ k).lo.toArray⟩, .string ⟨(uptoS ⟨lo, hi⟩ k).hi.toArray⟩]) ∧ Sat W w' L := by
  have H1 := (H.alloc #[.string ⟨lo.toArray⟩, .string ⟨hi.toArray⟩] 54).alloc #[.string ⟨#[]⟩, .string ⟨#[]⟩] 54
  simp only [World.size_alloc] at H1
  have HON := Lib.hid (ssOne_any k hk H1)
  unfold uptoS
  dsimp only
  have HB := Lib.hid (fun w0 L0 (h : Sat W w0 L0) => sbelow_any lo hi (k ++ [0]) h)
  have HFD := Lib.hid (fun w0 => sp_field1 ⟨k.toArray⟩ ⟨(k ++ [0]).toArray⟩ w0)
  clear H1 H
  cases hb : belowB hi (k ++ [0]) with
  | true =>
    rw [hb] at HB
    rw [if_pos rfl]
    go_enter Try.func55, Try.ntmps55
    go_wp2_with fail
    refine (HON.out).mono ?_
    rintro e w2 ⟨rfl, H2⟩
    have hfd := HFD.out w2
    have c0 : w2.cell? ⟨w.heap.size, 0, none⟩ = some (.string ⟨lo.toArray⟩) := H2.tail.cell 0
    have c1 : w2.cell? ⟨w.heap.size, 1, none⟩ = some (.string ⟨hi.toArray⟩) := H2.tail.cell 1
    go_wp2_with fail
    refine (HB.out _ _ H2).mono ?_
    rintro e w3 ⟨rfl, H3⟩
    clear c0 c1 H2 HB hb
    have d0 : w3.cell? ⟨w.heap.size, 0, none⟩ = some (.string ⟨lo.toArray⟩) := H3.tail.cell 0
    have d1 : w3.cell? ⟨w.heap.size, 1, none⟩ = some (.string ⟨hi.toArray⟩) := H3.tail.cell 1
    have f1 := H3.tail.frz 1
    have H4 := H3.swap.setCell 1 (.string ⟨(k ++ [0]).toArray⟩)
    generalize hw4 : w3.setCell ⟨w.heap.size, 1, none⟩ (.string ⟨(k ++ [0]).toArray⟩) = w4 at H4
    have e0 : w4.cell? ⟨w.heap.size, 0, none⟩ = some (.string ⟨lo.toArray⟩) := H4.cell 0
    have e1 : w4.cell? ⟨w.heap.size, 1, none⟩ = some (.string ⟨(k ++ [0]).toArray⟩) := H4.cell 1
    have HR : Rd w4 (some ⟨w.heap.size, 0, none⟩) [.string ⟨lo.toArray⟩, .string ⟨(k ++ [0]).toArray⟩] := RdL.pt _ H4
    go_wp2_with (first
      | (refine wpList_load_rd rfl (.tmp 2) 54 rfl w.heap.size 0 [.string ⟨lo.toArray⟩, .string ⟨(k ++ [0]).toArray⟩] (by rw [Try.underlying54]) sp_size (by simp [Act.eval]) HR ?_)
      | (refine wpList_store_pt rfl rfl (.tmp 4) (.tmp 15) 54 rfl (w.heap.size + 1) #[.string ⟨#[]⟩, .string ⟨#[]⟩] 54 [.string ⟨lo.toArray⟩, .string ⟨(k ++ [0]).toArray⟩] sp_size rfl rfl rfl (by simp [Value.oneCell']) H4.swap ?_
         intro w5 H5))
    exact bodyPost_ret (v := .agg #[.string ⟨lo.toArray⟩, .string ⟨(k ++ [0]).toArray⟩]) (results_cell_row Try.results55 _ w5 (w.heap.size + 1) 54 #[.string ⟨lo.toArray⟩, .string ⟨(k ++ [0]).toArray⟩] (0, 0) _ rfl H5.heap Try.underlying54 rfl sp_size) rfl ⟨rfl, H5.tail.tail⟩
  | false =>
    rw [hb] at HB
    rw [if_neg (by simp)]
    go_enter Try.func55, Try.ntmps55
    go_wp2_with fail
    refine (HON.out).mono ?_
    rintro e w2 ⟨rfl, H2⟩
    have hfd := HFD.out w2
    have c0 : w2.cell? ⟨w.heap.size, 0, none⟩ = some (.string ⟨lo.toArray⟩) := H2.tail.cell 0
    have c1 : w2.cell? ⟨w.heap.size, 1, none⟩ = some (.string ⟨hi.toArray⟩) := H2.tail.cell 1
    go_wp2_with fail
    refine (HB.out _ _ H2).mono ?_
    rintro e w3 ⟨rfl, H3⟩
    clear c0 c1 H2 HB hb
    have HR : Rd w3 (some ⟨w.heap.size, 0, none⟩) [.string ⟨lo.toArray⟩, .string ⟨hi.toArray⟩] := RdL.pt _ H3.swap
    go_wp2_with (first
      | (refine wpList_load_rd rfl (.tmp 2) 54 rfl w.heap.size 0 [.string ⟨lo.toArray⟩, .string ⟨hi.toArray⟩] (by rw [Try.underlying54]) sp_size (by simp [Act.eval]) HR ?_)
      | (refine wpList_store_pt rfl rfl (.tmp 4) (.tmp 15) 54 rfl (w.heap.size + 1) #[.string ⟨#[]⟩, .string ⟨#[]⟩] 54 [.string ⟨lo.toArray⟩, .string ⟨hi.toArray⟩] sp_size rfl rfl rfl (by simp [Value.oneCell']) H3 ?_
         intro w5 H5))
    exact bodyPost_ret (v := .agg #[.string ⟨lo.toArray⟩, .string ⟨hi.toArray⟩]) (results_cell_row Try.results55 _ w5 (w.heap.size + 1) 54 #[.string ⟨lo.toArray⟩, .string ⟨hi.toArray⟩] (0, 0) _ rfl H5.heap Try.underlying54 rfl sp_size) rfl ⟨rfl, H5.tail.tail⟩
end Go.Proofs.Ytnpgjobaibnknaa
