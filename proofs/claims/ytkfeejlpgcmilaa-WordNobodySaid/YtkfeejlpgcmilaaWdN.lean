/- Package word's reader: ID. -/
import Derived.Test.YtkfeejlpgcmilaaWdM
import Derived.Test.YtkfeejlpgcmilaaRtD
import Derived.Deep.RegionHeld3
import Derived.Laws.Rows
namespace Go.Proofs.Ytkfeejlpgcmilaa
open Go.RowKit Go.Rt

/-- What an ID asked for comes to: its 32 bytes, or a fault. -/
def idAt (bs : List UInt8) (pl : Nat) : Option (List UInt8) := if 32 ≤ bs.length - pl then some ((bs.drop pl).take 32) else none

set_option maxRecDepth 100000 in
set_option maxHeartbeats 1600000 in
theorem rID1_any {W w : World} {l : List SL} (b1 b4 : Nat) (p : Nat) (bs : List UInt8) (pl : Nat) (hp : pl ≤ bs.length) (hb : bs.length ≤ 1000000000)
    (H : Sat W w (rdr p bs pl 0 0 :: ([pt b4 (noID.map B).toArray 33, pt b1 #[.pointer (some ⟨p, 0, none⟩)] 52] ++ l))) (hfit : 32 ≤ bs.length - pl) :
    Calls Try.prog 66 #[.pointer (some ⟨b4, 0, none⟩), .pointer (some ⟨b1, 0, none⟩)] w fun e w' =>
      e = .returned (.tuple #[]) ∧ Sat W w' (rdr p bs (pl + 32) 0 0 :: ([pt b4 (((bs.drop pl).take 32).map B).toArray 33, pt b1 #[.pointer (some ⟨p, 0, none⟩)] 52] ++ l)) := by
  obtain ⟨i0, hi, hz0, hz1, hz2⟩ := info_parts infoU8
  have h1 : w.cell? ⟨b1, 0, none⟩ = some (.pointer (some ⟨p, 0, none⟩)) := (H.pull 2).cell 0
  have hl : (((bs.drop pl).take 32).map B).length = 32 := by rw [List.length_map, List.length_take, List.length_drop]; omega
  have HL := Lib.hid hl
  clear hl
  go_enter Try.func66, Try.ntmps66
  go_region_law (first
    | (refine step_copy_pt rfl (.tmp 2) (.tmp 4) 28 28 rfl 5 i0 Try.underlying28 hi hz1 b4 32 (noID.map B).toArray 33 (by simp [Act.eval]) (by decide) (H2.pull 1) A 32 c (((bs.drop pl).take 32).map B) (by simp [Act.eval]) HL.out hr (B_one _) (by omega) ?_
       intro w3 H3)
    | (go_simp; go_at_call 62; refine (some_fits 32 hp hb hfit H.drew).mono ?_
       rintro e w2 ⟨A, c, rfl, H2, hr⟩))
  all_goals
    go_end0
    refine ⟨rfl, ?_⟩
    have e0 : (((bs.drop pl).take 32).map B ++ (noID.map B).toArray.toList.drop 32) = ((bs.drop pl).take 32).map B := by
      rw [show (noID.map B).toArray.toList.drop 32 = [] from rfl, List.append_nil]
    rw [e0] at H3
    exact H3.swap

set_option maxRecDepth 100000 in
set_option maxHeartbeats 1600000 in
theorem rID1_short {W w : World} {l : List SL} (b1 b4 : Nat) (p : Nat) (bs : List UInt8) (pl : Nat) (hp : pl ≤ bs.length) (hb : bs.length ≤ 1000000000)
    (H : Sat W w (rdr p bs pl 0 0 :: ([pt b4 (noID.map B).toArray 33, pt b1 #[.pointer (some ⟨p, 0, none⟩)] 52] ++ l))) (hfit : ¬ 32 ≤ bs.length - pl) :
    Calls Try.prog 66 #[.pointer (some ⟨b4, 0, none⟩), .pointer (some ⟨b1, 0, none⟩)] w fun e w' =>
      e = .panicked (gone 4 bs.length) ∧ ∃ pl', Sat W w' (rdr p bs pl' 0 0 :: ([pt b4 (noID.map B).toArray 33, pt b1 #[.pointer (some ⟨p, 0, none⟩)] 52] ++ l)) := by
  have h1 : w.cell? ⟨b1, 0, none⟩ = some (.pointer (some ⟨p, 0, none⟩)) := (H.pull 2).cell 0
  go_enter Try.func66, Try.ntmps66
  refine wp_region_held_drew (S := fun w => w.cell? ⟨b1, 0, none⟩ = some (.pointer (some ⟨p, 0, none⟩))) (by kernel_rfl) h1 (fun hS => ?_)
  refine wpAnyH_take (i := 0) (v := ?_) rfl (by kernel_rfl) (by kernel_rfl) (by kernel_rfl) (fun _ _ _ h => h) (Or.inl ⟨by rfl, ?_⟩) hS ?_
  rotate_left
  · intro w hw
    have g1 : w.cell? ⟨b1, 0, none⟩ = some (.pointer (some ⟨p, 0, none⟩)) := hw
    go_simp
    try with_reducible rfl
  simp only [Act.put, List.getElem_toArray, List.getElem_cons_zero, List.setIfInBounds_toArray, List.set_cons_zero, List.set_cons_succ]
  refine wpAnyH_take (i := 1) (v := ?_) rfl (by kernel_rfl) (by kernel_rfl) (by kernel_rfl) (fun _ _ _ h => h) (Or.inl ⟨by rfl, ?_⟩) hS ?_
  rotate_left
  · intro w hw
    have g1 : w.cell? ⟨b1, 0, none⟩ = some (.pointer (some ⟨p, 0, none⟩)) := hw
    go_simp
    try with_reducible rfl
  simp only [Act.put, List.getElem_toArray, List.getElem_cons_zero, List.getElem_cons_succ, List.setIfInBounds_toArray, List.set_cons_zero, List.set_cons_succ]
  refine wpAnyH_ready (rs := [2]) (by kernel_rfl) (by simp) ?_
  refine AllReadyH.cons rfl (fun K hK => ?_) AllReadyH.nil
  go_simp
  refine (some_short 32 hp hb (by omega) H.drew).mono ?_
  rintro e w2 ⟨rfl, H2⟩
  exact ⟨rfl, rfl, _, H2⟩

structure ToldI where
  d : List UInt8
  pl : Nat
  fe : Int
  fa : Int
def toldID (bs : List UInt8) (pl : Nat) (fe fa : Int) : ToldI :=
  if fe = 0 then (if 32 ≤ bs.length - pl then ⟨(bs.drop pl).take 32, pl + 32, 0, 0⟩ else ⟨noID, pl, 4, bs.length⟩) else ⟨noID, pl, fe, fa⟩
theorem toldID_len (bs : List UInt8) (pl : Nat) (fe fa : Int) : (toldID bs pl fe fa).d.length = 32 := by
  unfold toldID
  split
  · split
    · simp only [List.length_take, List.length_drop]; omega
    · rfl
  · rfl

set_option maxRecDepth 100000 in
set_option maxHeartbeats 1600000 in
theorem rID_any {W w : World} {l : List SL} (p : Nat) (bs : List UInt8) (pl : Nat) (fe fa : Int) (hp : pl ≤ bs.length) (hb : bs.length ≤ 1000000000) (hf : fe = 0 → fa = 0)
    (H : Sat W w (rdr p bs pl fe fa :: l)) :
    Calls Try.prog 45 #[.pointer (some ⟨p, 0, none⟩)] w fun e w' =>
      e = .returned (idv (toldID bs pl fe fa).d) ∧ Sat W w' (rdr p bs (toldID bs pl fe fa).pl (toldID bs pl fe fa).fe (toldID bs pl fe fa).fa :: l) := by
  have hmf : ∀ (fn : Fn) (first cap : Array Value) (w : World), (Instr.makeFunc fn first cap).run Try.prog w = .ok (.func fn first cap) w := fun _ _ _ _ => rfl
  have H0 := (((H.alloc #[.pointer (some ⟨p, 0, none⟩)] 52).alloc (noID.map B).toArray 33).alloc (noID.map B).toArray 33)
  simp only [World.size_alloc] at H0
  have hTl := toldID_len bs pl fe fa
  obtain ⟨T, HT⟩ : ∃ T, Hid (toldID bs pl fe fa = T) := ⟨_, rfl⟩
  rw [HT.out] at hTl ⊢
  obtain ⟨d, plT, feT, faT⟩ := T
  dsimp only at hTl ⊢
  go_enter Try.func45, Try.ntmps45
  go_wp2_with fail
  have hsz : (Try.prog.info? 33).map (·.size) = some (noID.map B).length := by rw [List.length_map]; kernel_rfl
  have H1 : Sat W _ (rdr p bs pl fe fa :: ([pt (w.heap.size + 1 + 1) (noID.map B).toArray 33, pt w.heap.size #[.pointer (some ⟨p, 0, none⟩)] 52] ++ (pt (w.heap.size + 1) (noID.map B).toArray 33 :: l))) :=
    (H0.pull 3).perm (((List.Perm.swap _ _ _).cons _).cons _)
  clear H0 hmf
  change Calls Try.prog _ _ (((w.alloc (.cells #[.pointer (some ⟨p, 0, none⟩)] 52)).alloc (.cells (noID.map B).toArray 33)).alloc (.cells (noID.map B).toArray 33)) _
  generalize ((w.alloc _).alloc _).alloc _ = wo at H1 ⊢
  generalize w.heap.size + 1 + 1 = b4 at H1 ⊢
  generalize w.heap.size + 1 = b2 at H1 ⊢
  generalize w.heap.size = b1 at H1 ⊢
  by_cases h0 : fe = 0
  · subst h0
    obtain rfl := hf rfl
    by_cases hfit : 32 ≤ bs.length - pl
    · have hT := HT.out
      rw [toldID, if_pos rfl, if_pos hfit, ToldI.mk.injEq] at hT
      obtain ⟨hd, rfl, rfl, rfl⟩ := hT
      clear HT hf
      have HI := Lib.hid fun (L : List SL) (w1 : World) (h : Sat W w1 (rdr p bs pl 0 0 :: ([pt b4 (noID.map B).toArray 33, pt b1 #[.pointer (some ⟨p, 0, none⟩)] 52] ++ L))) => rID1_any b1 b4 p bs pl hp hb h hfit
      rw [hd] at HI
      clear hd
      refine (try_fine p bs pl (pl + 32) 66 _ _ _ HI.out (fun w1 => by simp [go_sem]) H1).mono ?_
      rintro e w2 ⟨rfl, H2⟩
      have hszd : (Try.prog.info? 33).map (·.size) = some (d.map B).length := by rw [List.length_map, hTl]; kernel_rfl
      have HSZ := Lib.hid hszd
      clear hszd hsz
      have hrd : Rd w2 (some ⟨b4, 0, none⟩) (d.map B) := RdL.pt _ (H2.pull 1)
      have hcur : (noID.map B).toArray.size = (d.map B).length := by rw [List.length_map, hTl]; rfl
      have HC := Lib.hid hcur
      clear hcur
      go_wp2_with (first
        | refine wpList_load_rd rfl (.tmp 3) 33 rfl b4 0 (d.map B) (by rw [Try.underlying33]) HSZ.out (by simp [Act.eval]) hrd ?_
        | (refine wpList_store_pt rfl rfl (.tmp 2) (.tmp 9) 33 rfl b2 (noID.map B).toArray 33 (d.map B) HSZ.out rfl rfl HC.out (B_one _) (H2.pull 3) ?_
           intro w3 H3))
      exact bodyPost_ret (v := idv d) (results_cell_row Try.results45 _ w3 b2 33 (d.map B).toArray (0, 0) _ rfl H3.heap Try.underlying33 rfl (by simpa using HSZ.out)) rfl ⟨rfl, H3.tail.swap.tail.swap.tail⟩
    · have hT := HT.out
      rw [toldID, if_pos rfl, if_neg hfit, ToldI.mk.injEq] at hT
      obtain ⟨rfl, rfl, rfl, rfl⟩ := hT
      clear HT hf
      have HI := Lib.hid fun (L : List SL) (w1 : World) (h : Sat W w1 (rdr p bs pl 0 0 :: ([pt b4 (noID.map B).toArray 33, pt b1 #[.pointer (some ⟨p, 0, none⟩)] 52] ++ L))) => rID1_short b1 b4 p bs pl hp hb h hfit
      refine (try_gone p bs pl 4 bs.length 66 _ _ _ HI.out (fun w1 => by simp [go_sem]) H1).mono ?_
      rintro e w2 ⟨rfl, H2⟩
      go_wp2_with (refine wpList_store_pt rfl rfl (.tmp 2) (.tmp 8) 33 rfl b2 (noID.map B).toArray 33 (noID.map B) hsz (by simp [Act.eval]) rfl (by decide) (B_one _) (H2.pull 3) ?_
                   intro w3 H3)
      have hld : (loadVar 33 ⟨b2, 0, none⟩).run Try.prog w3 = .ok (idv noID) w3 := run_loadVar_rd 33 b2 0 (noID.map B) (by rw [Try.underlying33]) hsz (RdL.pt _ H3)
      exact bodyPost_ret (v := idv noID) (by simp [results, Try.results45, asAddr, hld]) rfl ⟨rfl, H3.tail.swap.tail.swap.tail⟩
  · have hT := HT.out
    rw [toldID, if_neg h0, ToldI.mk.injEq] at hT
    obtain ⟨rfl, rfl, rfl, rfl⟩ := hT
    clear HT hf
    refine (try_stuck p bs pl fe fa _ h0 H1).mono ?_
    rintro e w2 ⟨rfl, H2⟩
    go_wp2_with (refine wpList_store_pt rfl rfl (.tmp 2) (.tmp 8) 33 rfl b2 (noID.map B).toArray 33 (noID.map B) hsz (by simp [Act.eval]) rfl (by decide) (B_one _) (H2.pull 3) ?_
                 intro w3 H3)
    have hld : (loadVar 33 ⟨b2, 0, none⟩).run Try.prog w3 = .ok (idv noID) w3 := run_loadVar_rd 33 b2 0 (noID.map B) (by rw [Try.underlying33]) hsz (RdL.pt _ H3)
    exact bodyPost_ret (v := idv noID) (by simp [results, Try.results45, asAddr, hld]) rfl ⟨rfl, H3.tail.swap.tail.swap.tail⟩
end Go.Proofs.Ytkfeejlpgcmilaa
