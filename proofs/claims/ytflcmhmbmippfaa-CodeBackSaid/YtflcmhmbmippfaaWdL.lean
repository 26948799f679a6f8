/- Package word's reader: Text. -/
import Derived.Test.YtflcmhmbmippfaaWdK
import Derived.Deep.RegionHeld3
namespace Go.Proofs.Ytflcmhmbmippfaa
open Go.RowKit Go.Rt

/-- What a text asked for comes to: its bytes and how many bytes are passed, or a fault. -/
inductive Txt where
  | ok (s : List UInt8) (k : Nat)
  | bad (e a : Int)
def txtAt (bs : List UInt8) (pl : Nat) (most : Int) : Txt :=
  match numAt bs pl 0 most 3 with
  | .ok n k => if n ≤ bs.length - (pl + k) then .ok ((bs.drop (pl + k)).take n) (k + n) else .bad 4 bs.length
  | .bad e a => .bad e a

set_option maxRecDepth 100000 in
set_option maxHeartbeats 1600000 in
theorem rText1_any {W w : World} {l : List SL} (b1 b3 b4 : Nat) (p : Nat) (bs : List UInt8) (pl : Nat) (high : Int) (hp : pl ≤ bs.length) (hb : bs.length ≤ 1000000000)
    (H : Sat W w (rdr p bs pl 0 0 :: ([pt b4 #[.string ⟨#[]⟩] 9, pt b3 #[.int .i64 high] 3, pt b1 #[.pointer (some ⟨p, 0, none⟩)] 61] ++ l))) :
    Calls Try.prog 79 #[.pointer (some ⟨b1, 0, none⟩), .pointer (some ⟨b3, 0, none⟩), .pointer (some ⟨b4, 0, none⟩)] w fun e w' =>
      match txtAt bs pl high with
      | .ok s k => e = .returned (.tuple #[]) ∧ Sat W w' (rdr p bs (pl + k) 0 0 :: ([pt b4 #[.string ⟨s.toArray⟩] 9, pt b3 #[.int .i64 high] 3, pt b1 #[.pointer (some ⟨p, 0, none⟩)] 61] ++ l)) ∧ pl + k ≤ bs.length
      | .bad fe fa => e = .panicked (gone fe fa) ∧ ∃ pl', Sat W w' (rdr p bs pl' 0 0 :: ([pt b4 #[.string ⟨#[]⟩] 9, pt b3 #[.int .i64 high] 3, pt b1 #[.pointer (some ⟨p, 0, none⟩)] 61] ++ l)) := by
  have h1 : w.cell? ⟨b1, 0, none⟩ = some (.pointer (some ⟨p, 0, none⟩)) := (H.pull 3).cell 0
  have h3 : w.cell? ⟨b3, 0, none⟩ = some (.int .i64 high) := (H.pull 2).cell 0
  have hn := number_any 0 high 3 hp hb H.drew
  unfold txtAt
  generalize numAt bs pl 0 high 3 = r at hn ⊢
  have HN := Lib.hid hn
  clear hn
  cases r with
  | bad fe fa =>
    dsimp only
    clear H
    go_enter Try.func79, Try.ntmps79
    refine wp_region_held_drew (S := fun w => w.cell? ⟨b1, 0, none⟩ = some (.pointer (some ⟨p, 0, none⟩)) ∧ w.cell? ⟨b3, 0, none⟩ = some (.int .i64 high)) (by kernel_rfl) ⟨h1, h3⟩ (fun hS => ?_)
    refine wpAnyH_take (i := 0) (v := ?_) rfl (by kernel_rfl) (by kernel_rfl) (by kernel_rfl) (fun _ _ _ h => h) (Or.inl ⟨by rfl, ?_⟩) hS ?_
    rotate_left
    · intro w hw
      obtain ⟨g1, g3⟩ := hw
      go_simp
      try with_reducible rfl
    simp only [Act.put, List.getElem_toArray, List.getElem_cons_zero, List.setIfInBounds_toArray, List.set_cons_zero, List.set_cons_succ]
    refine wpAnyH_take (i := 1) (v := ?_) rfl (by kernel_rfl) (by kernel_rfl) (by kernel_rfl) (fun _ _ _ h => h) (Or.inl ⟨by rfl, ?_⟩) hS ?_
    rotate_left
    · intro w hw
      obtain ⟨g1, g3⟩ := hw
      go_simp
      try with_reducible rfl
    simp only [Act.put, List.getElem_toArray, List.getElem_cons_zero, List.getElem_cons_succ, List.setIfInBounds_toArray, List.set_cons_zero, List.set_cons_succ]
    refine wpAnyH_take (i := 2) (v := ?_) rfl (by kernel_rfl) (by kernel_rfl) (by kernel_rfl) (fun _ _ _ h => h) (Or.inl ⟨by rfl, ?_⟩) hS ?_
    rotate_left
    · intro w hw
      obtain ⟨g1, g3⟩ := hw
      go_simp
      try with_reducible rfl
    simp only [Act.put, List.getElem_toArray, List.getElem_cons_zero, List.getElem_cons_succ, List.setIfInBounds_toArray, List.set_cons_zero, List.set_cons_succ]
    refine wpAnyH_ready (rs := [3]) (by kernel_rfl) (by simp) ?_
    refine AllReadyH.cons rfl (fun K hK => ?_) AllReadyH.nil
    go_simp
    refine HN.out.mono ?_
    rintro e w1 ⟨rfl, h⟩
    exact ⟨rfl, rfl, h⟩
  | ok n k =>
    dsimp only
    by_cases hfit : n ≤ bs.length - (pl + k)
    · rw [if_pos hfit]
      go_enter Try.func79, Try.ntmps79
      go_region_law (first
        | (go_simp; go_at_call 78; refine HN.out.mono ?_
           rintro e w1 ⟨rfl, H1, hk⟩
           have h1' : w1.cell? ⟨b1, 0, none⟩ = some (.pointer (some ⟨p, 0, none⟩)) := (H1.pull 3).cell 0)
        | (go_simp; go_at_call 80; refine (some_fits n hk hb hfit H1).mono ?_
           rintro e w2 ⟨A, c, rfl, H2, hr⟩
           have hl : ((bs.drop (pl + k)).take n).length = n := by rw [List.length_take, List.length_drop]; omega
           have hcv := run_str (P := Try.prog) (w := w2) 22 9 5 Try.underlying22 Try.underlying5 Try.underlying9 A n c ((bs.drop (pl + k)).take n) hl hr
           have h4 : w2.cell? ⟨b4, 0, none⟩ = some (.string ⟨#[]⟩) := (H2.pull 1).cell 0
           have f4 := (H2.pull 1).frz 0))
      all_goals
        go_end0
        refine ⟨rfl, ?_, by omega⟩
        rw [← Nat.add_assoc]
        exact ((H2.swap).setCell 0 (.string ⟨((bs.drop (pl + k)).take n).toArray⟩)).swap
    · rw [if_neg hfit]
      go_enter Try.func79, Try.ntmps79
      refine wp_region_held_drew (S := fun w => w.cell? ⟨b1, 0, none⟩ = some (.pointer (some ⟨p, 0, none⟩)) ∧ w.cell? ⟨b3, 0, none⟩ = some (.int .i64 high)) (by kernel_rfl) ⟨h1, h3⟩ (fun hS => ?_)
      refine wpAnyH_take (i := 0) (v := ?_) rfl (by kernel_rfl) (by kernel_rfl) (by kernel_rfl) (fun _ _ _ h => h) (Or.inl ⟨by rfl, ?_⟩) hS ?_
      rotate_left
      · intro w hw
        obtain ⟨g1, g3⟩ := hw
        go_simp
        try with_reducible rfl
      simp only [Act.put, List.getElem_toArray, List.getElem_cons_zero, List.setIfInBounds_toArray, List.set_cons_zero, List.set_cons_succ]
      refine wpAnyH_take (i := 1) (v := ?_) rfl (by kernel_rfl) (by kernel_rfl) (by kernel_rfl) (fun _ _ _ h => h) (Or.inl ⟨by rfl, ?_⟩) hS ?_
      rotate_left
      · intro w hw
        obtain ⟨g1, g3⟩ := hw
        go_simp
        try with_reducible rfl
      simp only [Act.put, List.getElem_toArray, List.getElem_cons_zero, List.getElem_cons_succ, List.setIfInBounds_toArray, List.set_cons_zero, List.set_cons_succ]
      refine wpAnyH_take (i := 2) (v := ?_) rfl (by kernel_rfl) (by kernel_rfl) (by kernel_rfl) (fun _ _ _ h => h) (Or.inl ⟨by rfl, ?_⟩) hS ?_
      rotate_left
      · intro w hw
        obtain ⟨g1, g3⟩ := hw
        go_simp
        try with_reducible rfl
      simp only [Act.put, List.getElem_toArray, List.getElem_cons_zero, List.getElem_cons_succ, List.setIfInBounds_toArray, List.set_cons_zero, List.set_cons_succ]
      refine wpAnyH_ready (rs := [3]) (by kernel_rfl) (by simp) ?_
      refine AllReadyH.cons rfl (fun K hK => ?_) AllReadyH.nil
      go_simp
      refine HN.out.mono ?_
      rintro e w1 ⟨rfl, H1, hk⟩
      refine hK.out _ _ ⟨(H1.pull 3).cell 0, (H1.pull 2).cell 0⟩ (fun hS1 => ?_)
      clear hK K
      refine wpAnyH_ready (rs := [4]) (by kernel_rfl) (by simp) ?_
      refine AllReadyH.cons rfl (fun K hK => ?_) AllReadyH.nil
      go_simp
      refine (some_short n hk hb (by omega) H1).mono ?_
      rintro e w2 ⟨rfl, H2⟩
      exact ⟨rfl, rfl, _, H2⟩
end Go.Proofs.Ytflcmhmbmippfaa
