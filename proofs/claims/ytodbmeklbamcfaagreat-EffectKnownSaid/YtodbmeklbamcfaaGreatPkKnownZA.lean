/- A pack of texts: KdF, KdG -/
import Derived.Test.YtodbmeklbamcfaaGreatPkKnownX
import Derived.Test.YtodbmeklbamcfaaGreatPkKnownF
import Derived.Test.YtodbmeklbamcfaaGreatPkKnownB
import Derived.Deep.LoopGhost
/- Sorted lists gone through from their heads: what is in both, or not. -/
namespace Go.Proofs.YtodbmeklbamcfaaGreat
open Go.RowKit Go.Rt

set_option maxRecDepth 100000 in
theorem eleft_any (p : Nat) (A : Option Addr) (n c : Nat) (w : World) (hc : w.cell? ⟨p, 0, none⟩ = some (.slice A n c)) :
    Calls Tryz.prog 213 #[.pointer (some ⟨p, 0, none⟩)] w fun e w' => e = .returned (.bool (decide (0 < n))) ∧ w' = w := by
  go_enter Tryz.func213, Tryz.ntmps213
  go_wp2
  go_ret
  exact ⟨by simp, rfl⟩
set_option maxRecDepth 100000 in
theorem ehead_any (p b o : Nat) (n c : Nat) (x : Str) (w : World) (hc : w.cell? ⟨p, 0, none⟩ = some (.slice (some ⟨b, o, none⟩) n c)) (hn : 0 < n) (hx : w.cell? ⟨b, o, none⟩ = some (.string ⟨x.toArray⟩)) :
    Calls Tryz.prog 215 #[.pointer (some ⟨p, 0, none⟩)] w fun e w' => e = .returned (.string ⟨x.toArray⟩) ∧ w' = w := by
  go_enter Tryz.func215, Tryz.ntmps215
  go_wp2
  go_ret
  exact ⟨rfl, rfl⟩
set_option maxRecDepth 100000 in
theorem enext_any {W w : World} {L : List SL} (p : Nat) (A : Option Addr) (n c : Nat) (t : TypeId) (hn : 0 < n) (H : Sat W w (pt p #[.slice A n c] t :: L)) :
    Calls Tryz.prog 214 #[.pointer (some ⟨p, 0, none⟩)] w fun e w' => e = .returned (.tuple #[]) ∧ Sat W w' (pt p #[.slice (subA A c 1) (n - 1) (c - 1)] t :: L) := by
  obtain ⟨i0, hi, hz0, hz1, hz2⟩ := info_parts infoStr
  have hc : w.cell? ⟨p, 0, none⟩ = some (.slice A n c) := H.cell 0
  have hf := H.frz 0
  have H2 := H.setCell 0 (.slice (subA A c 1) (n - 1) (c - 1))
  go_enter Tryz.func214, Tryz.ntmps214
  go_wp2_with (refine wpList_slice_from (by rfl) (.tmp 6) (.const (.int .i64 1)) 22 rfl 9 i0 Tryz.underlying22 hi hz1 A n c 1 rfl rfl (by omega) ?_)
  go_end0
  exact ⟨rfl, H2⟩
/-- (printed by kdf.py) -/
theorem eleft_is (p : Nat) (A : Option Addr) (n c : Nat) (v : Bool) (hv : decide (0 < n) = v) (w : World) (hc : w.cell? ⟨p, 0, none⟩ = some (.slice A n c)) :
    Calls Tryz.prog 213 #[.pointer (some ⟨p, 0, none⟩)] w fun e w' => e = .returned (.bool v) ∧ w' = w := by subst hv; exact eleft_any p A n c w hc
theorem cellD {w : World} {a : Addr} {v : Value} (h : w.cell? a = some v) (n : Nat) : (w.drewN n).cell? a = some v := h
theorem RdL.next {W : World} {L : List SL} {A : Option Addr} {c : Nat} {x : Str} {m : List Str} (h : RdL W L A (tsC (x :: m))) (hc : (x :: m).length ≤ c) : RdL W L (subA A c 1) (tsC m) := fun w H => by
  have h1 := subA_rd (h w H) (n := m.length + 1) (by simp [tsC]) hc 1 m.length (by omega)
  have e : ((tsC (x :: m)).drop 1).take m.length = tsC m := by
    show (tsC m).take m.length = _
    rw [List.take_of_length_le (by rw [tsC_len]; exact Nat.le_refl _)]
  rwa [e] at h1
theorem rdl_head {W w : World} {L : List SL} {A : Option Addr} {x : Str} {m : List Str} (h : RdL W L A (tsC (x :: m))) (H : Sat W w L) : ∃ b o, A = some ⟨b, o, none⟩ ∧ ∀ w', Sat W w' L → w'.cell? ⟨b, o, none⟩ = some (.string ⟨x.toArray⟩) := by
  obtain ⟨b, o, rfl, _⟩ := ts_at (h w H) 0 x rfl
  refine ⟨b, o, rfl, fun w' H' => ?_⟩
  have := (h w' H').at 0 (u := encStr x) rfl
  exact this

set_option maxRecDepth 100000 in
theorem eof_any {W w : World} {L : List SL} (A : Option Addr) (c : Nat) (l : List Str) (hl : l.length ≤ 1000000000) (hx : ∀ x ∈ l, x.length ≤ maxLen) (hr : Rd w A (tsC l)) (H : Sat W w L) :
    Calls Tryz.prog 212 #[.slice A l.length c] w fun e w' => ∃ p A' c', e = .returned (.pointer (some ⟨p, 0, none⟩)) ∧ (sortS l).length ≤ c' ∧ c' ≤ maxLen ∧ Sat W w' (pt p #[.slice A' (sortS l).length c'] 231 :: seenS 9 (.slice A' (sortS l).length c') (sortS l).length (tsC (sortS l)) :: L) := by
  have h := eSort_sat A c l hl hx hr H
  have HH := Lib.hid h
  clear h
  go_enter Tryz.func212, Tryz.ntmps212
  go_wp2_with fail
  refine HH.out.mono ?_
  rintro e w1 ⟨A1, c1, rfl, H1⟩
  obtain ⟨_, A2, c2, hv, h1, h2, _⟩ := H1.new_slice
  cases hv
  have H2 := H1.alloc #[.slice A1 (sortS l).length c1] 231
  go_wp2
  go_ret
  exact ⟨_, A1, c1, rfl, h1, h2, H2⟩

set_option maxRecDepth 100000 in
set_option maxHeartbeats 16000000 in
theorem ewalk_any {W w : World} {L : List SL} (A A' : Option Addr) (c c' : Nat) (a b : List Str) (both : Bool) (ha : a.length ≤ 100000000) (hb : b.length ≤ 100000000) (hxa : ∀ x ∈ a, x.length ≤ maxLen) (hxb : ∀ x ∈ b, x.length ≤ maxLen) (hr : RdL W L A (tsC a)) (hr' : RdL W L A' (tsC b)) (H : Sat W w L) :
    Calls Tryz.prog 159 #[.slice A a.length c, .slice A' b.length c', .bool both] w fun e w' => ∃ A2 c2, e = .returned (.slice A2 (walkS a b both).length c2) ∧ Sat W w' (seenS 9 (.slice A2 (walkS a b both).length c2) (walkS a b both).length (tsC (walkS a b both)) :: L) := by
  obtain ⟨i0, hi, hz0, hz1, hz2⟩ := info_parts infoStr
  have hofa := eof_any (W := W) A c a (by omega) hxa (hr _ H) H
  have hofb := fun w0 (L0 : List SL) (r : Rd w0 A' (tsC b)) (h : Sat W w0 L0) => eof_any (W := W) A' c' b (by omega) hxb r h
  rw [walkS_eq]
  have hra := rise_sortS a
  have hrb := rise_sortS b
  have hla := sortS_len a
  obtain ⟨pb, hpb⟩ : ∃ pb : Str → Bool, (fun k => hasK (sortS b) k == both) = pb := ⟨_, rfl⟩
  rw [hpb]
  have hpb2 : ∀ k, pb k = (hasK (sortS b) k == both) := fun k => by rw [← hpb]
  have hpl : ∀ px : List Str, px.length ≤ a.length → (px.filter pb).length ≤ 1000000000 := fun px h => Nat.le_trans (List.length_filter_le _ _) (by omega)
  have HOA := Lib.hid hofa
  have HOB := Lib.hid hofb
  have HRA := Lib.hid hra
  have HRB := Lib.hid hrb
  have HPB0 := Lib.hid hpb2
  have HPL := Lib.hid hpl
  clear hofa hofb hra hrb hpb hpb2 hpl hxa hxb
  generalize sortS a = xs at *
  generalize sortS b = ys at *
  go_enter Tryz.func159, Tryz.ntmps159
  go_wp2_with fail
  refine HOA.out.mono ?_
  rintro e w1 ⟨bx, Ax0, cx0, rfl, hcx0, _, H1⟩
  clear HOA
  go_wp2_with fail
  refine (HOB.out _ _ (hr' _ H1.tail.tail) H1).mono ?_
  rintro e w2 ⟨by_, Ay0, cy0, rfl, hcy0, _, H2⟩
  clear HOB H1
  have H3 : Sat W w2 (seenS 9 (.slice none 0 0) 0 [] :: pt bx #[.slice Ax0 xs.length cx0] 231 :: pt by_ #[.slice Ay0 ys.length cy0] 231 :: seenS 9 (.slice Ay0 ys.length cy0) ys.length (tsC ys) :: seenS 9 (.slice Ax0 xs.length cx0) xs.length (tsC xs) :: L) := (H2.pull 2).new_nil _ _
  clear H2
  obtain ⟨Ls, hLs⟩ : ∃ Ls, (seenS 9 (.slice Ay0 ys.length cy0) ys.length (tsC ys) :: seenS 9 (.slice Ax0 xs.length cx0) xs.length (tsC xs) :: L) = Ls := ⟨_, rfl⟩
  have hry0 : RdL W Ls Ay0 (tsC ys) := by rw [← hLs]; exact RdL.seenS
  have hrx0 : RdL W Ls Ax0 (tsC xs) := by rw [← hLs]; exact RdL.tail RdL.seenS
  rw [hLs] at H3
  have HLS := Lib.hid hLs
  have HRY0 := Lib.hid hry0
  have HRX0 := Lib.hid hrx0
  clear hLs hry0 hrx0
  go_wp2
  go_loopg [7] xs.length (fun g ou wc => ∃ (px mx py my : List Str) (Ao : Option Addr) (co : Nat) (Ax : Option Addr) (cx : Nat) (Ay : Option Addr) (cy : Nat), g = mx.length ∧ Hid (WSt xs ys px mx py my) ∧ ou = .slice Ao (px.filter pb).length co ∧ Hid (RdL W Ls Ax (tsC mx)) ∧ Hid (RdL W Ls Ay (tsC my)) ∧ mx.length ≤ cx ∧ my.length ≤ cy ∧ Sat W wc (seenS 9 (.slice Ao (px.filter pb).length co) (px.filter pb).length (tsC (px.filter pb)) :: pt bx #[.slice Ax mx.length cx] 231 :: pt by_ #[.slice Ay my.length cy] 231 :: Ls))
  case atStart => exact ⟨[], xs, [], ys, none, 0, Ax0, cx0, Ay0, cy0, rfl, WSt.start xs ys, rfl, HRX0, HRY0, hcx0, hcy0, H3⟩
  case round =>
    obtain ⟨px, mx, py, my, Ao, co, Ax, cx, Ay, cy, rfl, HW, rfl, HRX, HRY, hcx, hcy, H4⟩ := hrel
    clear H3
    have cX : wr.cell? ⟨bx, 0, none⟩ = some (.slice Ax mx.length cx) := (H4.pull 1).cell 0
    cases mx with
    | nil =>
      have hdone := HW.out.done
      go_wp2_with fail
      refine (eleft_any bx Ax 0 cx _ cX).mono ?_
      rintro e _ ⟨rfl, rfl⟩
      subst hdone
      rw [← HLS.out] at H4
      go_wp2
      go_ret
      exact ⟨Ao, co, rfl, H4.swap.tail.swap.tail.swap.tail.swap.tail⟩
    | cons x mx =>
      obtain ⟨bX, oX, rfl, hxc0⟩ := rdl_head HRX.out H4.tail.tail.tail
      have HXC := Lib.hid hxc0
      have hlenpx : px.length ≤ a.length := by have h := HW.out.hx; have := congrArg List.length h; rw [List.length_append] at this; omega
      have HLEN := Lib.hid (HPL.out px hlenpx)
      clear hxc0 hlenpx
      go_wp2_with fail
      refine (eleft_any bx _ _ cx _ cX).mono ?_
      rintro e _ ⟨rfl, rfl⟩
      clear cX
      go_wp2
      go_loopg [37] my.length (fun g _ wc => ∃ (py my : List Str) (Ay : Option Addr) (cy : Nat), g = my.length ∧ Hid (WSt xs ys px (x :: mx) py my) ∧ Hid (RdL W Ls Ay (tsC my)) ∧ my.length ≤ cy ∧ Sat W wc (seenS 9 (.slice Ao (px.filter pb).length co) (px.filter pb).length (tsC (px.filter pb)) :: pt bx #[.slice (some ⟨bX, oX, none⟩) (x :: mx).length cx] 231 :: pt by_ #[.slice Ay my.length cy] 231 :: Ls))
      case atStart => exact ⟨py, my, Ay, cy, rfl, HW, HRY, hcy, H4⟩
      case round =>
        clear HW HRY hcy H4
        obtain ⟨py, my, Ay, cy, rfl, HW, HRY, hcy, H9⟩ := hrel
        have cX : wr.cell? ⟨bx, 0, none⟩ = some (.slice (some ⟨bX, oX, none⟩) (x :: mx).length cx) := (H9.pull 1).cell 0
        have cY : wr.cell? ⟨by_, 0, none⟩ = some (.slice Ay my.length cy) := (H9.pull 2).cell 0
        have hxc : wr.cell? ⟨bX, oX, none⟩ = some (.string ⟨x.toArray⟩) := HXC.out wr H9.tail.tail.tail
        cases my with
        | nil =>
          have QL := Lib.hid (fun n => eleft_is by_ _ 0 cy false rfl _ (cellD cY n))
          go_wp2
          go_quiet ((go_at_call 213; with_reducible exact Calls.quiet_of_same (QL.out _)))
          clear QL
          replace H9 := H9.drewN nq
          generalize wr.drewN nq = w8 at H9 ⊢
          clear cX cY hxc
          have cX : w8.cell? ⟨bx, 0, none⟩ = some (.slice (some ⟨bX, oX, none⟩) (x :: mx).length cx) := (H9.pull 1).cell 0
          have cY : w8.cell? ⟨by_, 0, none⟩ = some (.slice Ay ([] : List Str).length cy) := (H9.pull 2).cell 0
          have QL := Lib.hid (fun n => eleft_is by_ _ 0 cy false rfl _ (cellD cY n))
          go_wp2
          go_quiet ((go_at_call 213; with_reducible exact Calls.quiet_of_same (QL.out _)))
          clear QL
          replace H9 := H9.drewN nq
          generalize w8.drewN nq = w9 at H9 ⊢
          clear cX cY
          have HHAS : hasK ys x = false := HW.out.has_none
          cases both
          · have hpx : pb x = true := by rw [HPB0.out x, HHAS]; rfl
            have hfs : (px ++ [x]).filter pb = px.filter pb ++ [x] := by rw [filter_snoc, hpx]; rfl
            have HFS := Lib.hid hfs
            clear hfs hpx
            have cX2 : w9.cell? ⟨bx, 0, none⟩ = some (.slice (some ⟨bX, oX, none⟩) (x :: mx).length cx) := (H9.pull 1).cell 0
            have hxc2 : w9.cell? ⟨bX, oX, none⟩ = some (.string ⟨x.toArray⟩) := HXC.out w9 H9.tail.tail.tail
            generalize hacc : px.filter pb = acc at *
            have hal : acc.length ≤ 1000000000 := HLEN.out
            clear hacc
            go_wp2_with fail
            refine (ehead_any bx bX oX _ cx x _ cX2 (by simp) hxc2).mono ?_
            rintro e w9 ⟨rfl, rfl⟩
            have H10 := H9.alloc #[.string ⟨x.toArray⟩] 9
            have hrd : Rd _ (some ⟨w9.heap.size, 0, none⟩) [.string ⟨x.toArray⟩] := RdL.pt _ H10
            go_wp2_with (refine wpList_append_new rfl (.tmp 60) (.tmp 65) 22 rfl 9 i0 _ zS 16 Tryz.underlying22 hi hz0 rfl hz1 hz2 (by simp) _ acc.length _ rfl H10.swap (some ⟨w9.heap.size, 0, none⟩) 1 1 [.string ⟨x.toArray⟩] rfl rfl hrd (by simp [Value.oneCell']) (by unfold maxLen; omega) (by omega) ?_
                         intro A11 c11 w11 H11)
            have H12 := (H11.swap.tail).swap
            refine (enext_any bx _ _ cx 231 (by simp) H12).mono ?_
            rintro e w13 ⟨rfl, H13⟩
            go_wp2
            go_roundg mx.length
            case measure => simp
            case rel =>
              refine ⟨px ++ [x], mx, py, [], A11, c11, _, cx - 1, _, cy, rfl, HW.out.step, ?_, RdL.next HRX.out hcx, HRY, ?_, hcy, ?_⟩
              · rw [HFS.out, List.length_append]; rfl
              · simp only [List.length_cons] at hcx; omega
              · rw [HFS.out, List.length_append, tsC_append]; exact H13.swap
          · have hpx : pb x = false := by rw [HPB0.out x, HHAS]; rfl
            have hfs : (px ++ [x]).filter pb = px.filter pb := by rw [filter_snoc, hpx]; rfl
            have HFS := Lib.hid hfs
            clear hfs hpx
            go_wp2_with fail
            have H12 := H9.swap
            refine (enext_any bx _ _ cx 231 (by simp) H12).mono ?_
            rintro e w13 ⟨rfl, H13⟩
            go_wp2
            go_roundg mx.length
            case measure => simp
            case rel =>
              refine ⟨px ++ [x], mx, py, [], Ao, co, _, cx - 1, _, cy, rfl, HW.out.step, ?_, RdL.next HRX.out hcx, HRY, ?_, hcy, ?_⟩
              · rw [HFS.out]
              · simp only [List.length_cons] at hcx; omega
              · rw [HFS.out]; exact H13.swap
        | cons y my =>
          obtain ⟨bY, oY, rfl, hyc0⟩ := rdl_head HRY.out H9.tail.tail.tail
          have HYC := Lib.hid hyc0
          clear hyc0
          have hyc : wr.cell? ⟨bY, oY, none⟩ = some (.string ⟨y.toArray⟩) := HYC.out wr H9.tail.tail.tail
          by_cases hlt : y < x
          · have hl1 : Op.bytesLess y x = true := less_yes hlt
            have HLT := Lib.hid hlt
            clear hlt
            have QL := Lib.hid (fun n => eleft_is by_ _ _ cy true (by simp) _ (cellD cY n))
            have QY := Lib.hid (fun n => ehead_any by_ bY oY _ cy y _ (cellD cY n) (by simp) (cellD hyc n))
            have QX := Lib.hid (fun n => ehead_any bx bX oX _ cx x _ (cellD cX n) (by simp) (cellD hxc n))
            go_wp2
            go_quiet ((first | (go_at_call 213; with_reducible exact Calls.quiet_of_same (QL.out _)) | (go_at_call 215; first | with_reducible exact Calls.quiet_of_same (QY.out _) | with_reducible exact Calls.quiet_of_same (QX.out _))))
            clear QL QY QX
            replace H9 := H9.drewN nq
            generalize wr.drewN nq = w8 at H9 ⊢
            clear cX cY hxc hyc
            go_wp2_with fail
            refine (enext_any by_ _ _ cy 231 (by simp) (H9.pull 2)).mono ?_
            rintro e w9 ⟨rfl, H10⟩
            go_wp2
            go_roundg my.length
            case measure => simp
            case rel => exact ⟨py ++ [y], my, _, cy - 1, rfl, HW.out.skip HRA.out HLT.out, RdL.next HRY.out hcy, by simp only [List.length_cons] at hcy; omega, (H10.swap.pull 2).swap⟩
          · have hl1 : Op.bytesLess y x = false := less_no hlt
            have hhas := HW.out.has_some HRB.out hlt
            clear hlt
            have QL := Lib.hid (fun n => eleft_is by_ _ _ cy true (by simp) _ (cellD cY n))
            have QY := Lib.hid (fun n => ehead_any by_ bY oY _ cy y _ (cellD cY n) (by simp) (cellD hyc n))
            have QX := Lib.hid (fun n => ehead_any bx bX oX _ cx x _ (cellD cX n) (by simp) (cellD hxc n))
            go_wp2
            go_quiet ((first | (go_at_call 213; with_reducible exact Calls.quiet_of_same (QL.out _)) | (go_at_call 215; first | with_reducible exact Calls.quiet_of_same (QY.out _) | with_reducible exact Calls.quiet_of_same (QX.out _))))
            clear QL QY QX
            replace H9 := H9.drewN nq
            generalize wr.drewN nq = w8 at H9 ⊢
            clear cX cY hxc hyc
            have cX : w8.cell? ⟨bx, 0, none⟩ = some (.slice (some ⟨bX, oX, none⟩) (x :: mx).length cx) := (H9.pull 1).cell 0
            have cY : w8.cell? ⟨by_, 0, none⟩ = some (.slice (some ⟨bY, oY, none⟩) (y :: my).length cy) := (H9.pull 2).cell 0
            have hxc : w8.cell? ⟨bX, oX, none⟩ = some (.string ⟨x.toArray⟩) := HXC.out w8 H9.tail.tail.tail
            have hyc : w8.cell? ⟨bY, oY, none⟩ = some (.string ⟨y.toArray⟩) := HYC.out w8 H9.tail.tail.tail
            by_cases hyx : y = x
            · have hl2 : (y == x) = true := beq_yes hyx
              have HHAS : hasK ys x = true := by rw [hhas]; exact decide_eq_true hyx
              clear hyx hhas
              have QL := Lib.hid (fun n => eleft_is by_ _ _ cy true (by simp) _ (cellD cY n))
              have QY := Lib.hid (fun n => ehead_any by_ bY oY _ cy y _ (cellD cY n) (by simp) (cellD hyc n))
              have QX := Lib.hid (fun n => ehead_any bx bX oX _ cx x _ (cellD cX n) (by simp) (cellD hxc n))
              go_wp2
              go_quiet ((first | (go_at_call 213; with_reducible exact Calls.quiet_of_same (QL.out _)) | (go_at_call 215; first | with_reducible exact Calls.quiet_of_same (QY.out _) | with_reducible exact Calls.quiet_of_same (QX.out _))))
              clear QL QY QX
              replace H9 := H9.drewN nq
              generalize w8.drewN nq = w9 at H9 ⊢
              clear cX cY hxc hyc hl1 hl2
              cases both
              · have hpx : pb x = false := by rw [HPB0.out x, HHAS]; rfl
                have hfs : (px ++ [x]).filter pb = px.filter pb := by rw [filter_snoc, hpx]; rfl
                have HFS := Lib.hid hfs
                clear hfs hpx
                go_wp2_with fail
                have H12 := H9.swap
                refine (enext_any bx _ _ cx 231 (by simp) H12).mono ?_
                rintro e w13 ⟨rfl, H13⟩
                go_wp2
                go_roundg mx.length
                case measure => simp
                case rel =>
                  refine ⟨px ++ [x], mx, py, y :: my, Ao, co, _, cx - 1, _, cy, rfl, HW.out.step, ?_, RdL.next HRX.out hcx, HRY, ?_, hcy, ?_⟩
                  · rw [HFS.out]
                  · simp only [List.length_cons] at hcx; omega
                  · rw [HFS.out]; exact H13.swap
              · have hpx : pb x = true := by rw [HPB0.out x, HHAS]; rfl
                have hfs : (px ++ [x]).filter pb = px.filter pb ++ [x] := by rw [filter_snoc, hpx]; rfl
                have HFS := Lib.hid hfs
                clear hfs hpx
                have cX2 : w9.cell? ⟨bx, 0, none⟩ = some (.slice (some ⟨bX, oX, none⟩) (x :: mx).length cx) := (H9.pull 1).cell 0
                have hxc2 : w9.cell? ⟨bX, oX, none⟩ = some (.string ⟨x.toArray⟩) := HXC.out w9 H9.tail.tail.tail
                generalize hacc : px.filter pb = acc at *
                have hal : acc.length ≤ 1000000000 := HLEN.out
                clear hacc
                go_wp2_with fail
                refine (ehead_any bx bX oX _ cx x _ cX2 (by simp) hxc2).mono ?_
                rintro e w9 ⟨rfl, rfl⟩
                have H10 := H9.alloc #[.string ⟨x.toArray⟩] 9
                have hrd : Rd _ (some ⟨w9.heap.size, 0, none⟩) [.string ⟨x.toArray⟩] := RdL.pt _ H10
                go_wp2_with (refine wpList_append_new rfl (.tmp 60) (.tmp 65) 22 rfl 9 i0 _ zS 16 Tryz.underlying22 hi hz0 rfl hz1 hz2 (by simp) _ acc.length _ rfl H10.swap (some ⟨w9.heap.size, 0, none⟩) 1 1 [.string ⟨x.toArray⟩] rfl rfl hrd (by simp [Value.oneCell']) (by unfold maxLen; omega) (by omega) ?_
                             intro A11 c11 w11 H11)
                have H12 := (H11.swap.tail).swap
                refine (enext_any bx _ _ cx 231 (by simp) H12).mono ?_
                rintro e w13 ⟨rfl, H13⟩
                go_wp2
                go_roundg mx.length
                case measure => simp
                case rel =>
                  refine ⟨px ++ [x], mx, py, y :: my, A11, c11, _, cx - 1, _, cy, rfl, HW.out.step, ?_, RdL.next HRX.out hcx, HRY, ?_, hcy, ?_⟩
                  · rw [HFS.out, List.length_append]; rfl
                  · simp only [List.length_cons] at hcx; omega
                  · rw [HFS.out, List.length_append, tsC_append]; exact H13.swap
            · have hl2 : (y == x) = false := beq_no hyx
              have HHAS : hasK ys x = false := by rw [hhas]; exact decide_eq_false hyx
              clear hyx hhas
              have QL := Lib.hid (fun n => eleft_is by_ _ _ cy true (by simp) _ (cellD cY n))
              have QY := Lib.hid (fun n => ehead_any by_ bY oY _ cy y _ (cellD cY n) (by simp) (cellD hyc n))
              have QX := Lib.hid (fun n => ehead_any bx bX oX _ cx x _ (cellD cX n) (by simp) (cellD hxc n))
              go_wp2
              go_quiet ((first | (go_at_call 213; with_reducible exact Calls.quiet_of_same (QL.out _)) | (go_at_call 215; first | with_reducible exact Calls.quiet_of_same (QY.out _) | with_reducible exact Calls.quiet_of_same (QX.out _))))
              clear QL QY QX
              replace H9 := H9.drewN nq
              generalize w8.drewN nq = w9 at H9 ⊢
              clear cX cY hxc hyc hl1 hl2
              cases both
              · have hpx : pb x = true := by rw [HPB0.out x, HHAS]; rfl
                have hfs : (px ++ [x]).filter pb = px.filter pb ++ [x] := by rw [filter_snoc, hpx]; rfl
                have HFS := Lib.hid hfs
                clear hfs hpx
                have cX2 : w9.cell? ⟨bx, 0, none⟩ = some (.slice (some ⟨bX, oX, none⟩) (x :: mx).length cx) := (H9.pull 1).cell 0
                have hxc2 : w9.cell? ⟨bX, oX, none⟩ = some (.string ⟨x.toArray⟩) := HXC.out w9 H9.tail.tail.tail
                generalize hacc : px.filter pb = acc at *
                have hal : acc.length ≤ 1000000000 := HLEN.out
                clear hacc
                go_wp2_with fail
                refine (ehead_any bx bX oX _ cx x _ cX2 (by simp) hxc2).mono ?_
                rintro e w9 ⟨rfl, rfl⟩
                have H10 := H9.alloc #[.string ⟨x.toArray⟩] 9
                have hrd : Rd _ (some ⟨w9.heap.size, 0, none⟩) [.string ⟨x.toArray⟩] := RdL.pt _ H10
                go_wp2_with (refine wpList_append_new rfl (.tmp 60) (.tmp 65) 22 rfl 9 i0 _ zS 16 Tryz.underlying22 hi hz0 rfl hz1 hz2 (by simp) _ acc.length _ rfl H10.swap (some ⟨w9.heap.size, 0, none⟩) 1 1 [.string ⟨x.toArray⟩] rfl rfl hrd (by simp [Value.oneCell']) (by unfold maxLen; omega) (by omega) ?_
                             intro A11 c11 w11 H11)
                have H12 := (H11.swap.tail).swap
                refine (enext_any bx _ _ cx 231 (by simp) H12).mono ?_
                rintro e w13 ⟨rfl, H13⟩
                go_wp2
                go_roundg mx.length
                case measure => simp
                case rel =>
                  refine ⟨px ++ [x], mx, py, y :: my, A11, c11, _, cx - 1, _, cy, rfl, HW.out.step, ?_, RdL.next HRX.out hcx, HRY, ?_, hcy, ?_⟩
                  · rw [HFS.out, List.length_append]; rfl
                  · simp only [List.length_cons] at hcx; omega
                  · rw [HFS.out, List.length_append, tsC_append]; exact H13.swap
              · have hpx : pb x = false := by rw [HPB0.out x, HHAS]; rfl
                have hfs : (px ++ [x]).filter pb = px.filter pb := by rw [filter_snoc, hpx]; rfl
                have HFS := Lib.hid hfs
                clear hfs hpx
                go_wp2_with fail
                have H12 := H9.swap
                refine (enext_any bx _ _ cx 231 (by simp) H12).mono ?_
                rintro e w13 ⟨rfl, H13⟩
                go_wp2
                go_roundg mx.length
                case measure => simp
                case rel =>
                  refine ⟨px ++ [x], mx, py, y :: my, Ao, co, _, cx - 1, _, cy, rfl, HW.out.step, ?_, RdL.next HRX.out hcx, HRY, ?_, hcy, ?_⟩
                  · rw [HFS.out]
                  · simp only [List.length_cons] at hcx; omega
                  · rw [HFS.out]; exact H13.swap
end Go.Proofs.YtodbmeklbamcfaaGreat

/- What two lists of keys have in common, or not: the program's own answer. -/
namespace Go.Proofs.YtodbmeklbamcfaaGreat
open Go.RowKit Go.Rt

set_option maxRecDepth 100000 in
theorem eBoth_any {W w : World} {L : List SL} (A A' : Option Addr) (c c' : Nat) (a b : List Str) (ha : a.length ≤ 100000000) (hb : b.length ≤ 100000000) (hxa : ∀ x ∈ a, x.length ≤ maxLen) (hxb : ∀ x ∈ b, x.length ≤ maxLen) (hr : RdL W L A (tsC a)) (hr' : RdL W L A' (tsC b)) (H : Sat W w L) :
    Calls Tryz.prog 117 #[.slice A a.length c, .slice A' b.length c'] w fun e w' => ∃ A2 c2, e = .returned (.slice A2 (bothS a b).length c2) ∧ Sat W w' (seenS 9 (.slice A2 (bothS a b).length c2) (bothS a b).length (tsC (bothS a b)) :: L) := by
  have h := ewalk_any A A' c c' a b true ha hb hxa hxb hr hr' H
  have HH := Lib.hid h
  clear h
  go_enter Tryz.func117, Tryz.ntmps117
  go_wp2_with fail
  refine HH.out.mono ?_
  rintro e w1 ⟨A1, c1, rfl, H1⟩
  go_wp2
  go_ret
  exact ⟨A1, c1, rfl, H1⟩
end Go.Proofs.YtodbmeklbamcfaaGreat
