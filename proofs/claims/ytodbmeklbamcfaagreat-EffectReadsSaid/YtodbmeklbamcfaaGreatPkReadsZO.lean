/- A pack of texts: KjD, KjE, KlEReads -/
import Derived.Test.YtodbmeklbamcfaaGreatPkReadsZN
import Derived.Test.YtodbmeklbamcfaaGreatPkReadsZI
import Derived.Test.YtodbmeklbamcfaaGreatPkReadsW
import Derived.Test.YtodbmeklbamcfaaGreatPkReadsZM
import Derived.Test.YtodbmeklbamcfaaGreatPkReadsS
/- The document's way to read effects: all that is counted, with no stop at a fault. It comes to the same. -/
namespace Go.Proofs.YtodbmeklbamcfaaGreat
open Go.RowKit Go.Rt

def alR (bs : List UInt8) : List Str × RS := rAll (rdT bs 32) (ctR bs).2 (ctR bs).1.toNat
def alS (bs : List UInt8) : List Sp × RS := rAll (rdSp bs) (ctS bs).2 (ctS bs).1.toNat
def alW (bs : List UInt8) : List Wt × RS := rAll (rdW bs) (ctW bs).2 (ctW bs).1.toNat
def rawD (bs : List UInt8) : Ef := ⟨(stWhy bs).1, (stSteps bs).1, (alR bs).1, (alS bs).1, (alW bs).1⟩
theorem rAll_bad {α : Type} {one : RS → α × RS} (hs : ∀ s, s.fe ≠ 0 → (one s).2 = s) (s : RS) (n : Nat) (h : (rAll one s n).2.fe = 0) : s.fe = 0 := by
  rcases Decidable.em (s.fe = 0) with h0 | h0
  · exact h0
  · exact absurd h (rAll_keeps (p := fun s => s.fe ≠ 0) (fun s h => by rw [hs s h]; exact h) h0 n)
theorem rdI_bad (bs : List UInt8) (low high above : Int) (s : RS) (h : (rdI bs low high above s).2.fe = 0) : s.fe = 0 := by
  rcases Decidable.em (s.fe = 0) with h0 | h0
  · exact h0
  · rw [rdI_stuck bs low high above s h0] at h; exact absurd h h0
theorem endF_zero {bs : List UInt8} {pl : Nat} {fe fa : Int} (h : (endF bs pl fe fa).1 = 0) : fe = 0 := by
  unfold endF at h
  split at h
  · exact absurd h (by simp)
  · exact h
theorem readD (bs : List UInt8) : readE bs = if (endF bs (alW bs).2.pl (alW bs).2.fe (alW bs).2.fa).1 ≠ 0 then (noE, endF bs (alW bs).2.pl (alW bs).2.fe (alW bs).2.fa) else if checkX (rawD bs) ≠ 0 then (noE, 2, 0) else (rawD bs, 0, 0) := by
  have h1 : (lsR bs).2 = (alR bs).2 ∧ ((alR bs).2.fe = 0 → lsR bs = alR bs) := rAcc_all (fun s => rdT_stuck bs 32 s) _ _
  have h2 : (lsS bs).2 = (alS bs).2 ∧ ((alS bs).2.fe = 0 → lsS bs = alS bs) := rAcc_all (fun s => rdSp_stuck bs s) _ _
  have h3 : (lsW bs).2 = (alW bs).2 ∧ ((alW bs).2.fe = 0 → lsW bs = alW bs) := rAcc_all (fun s => rdW_stuck bs s) _ _
  unfold readE
  rw [h3.1]
  split
  · rfl
  · rename_i h0
    have e3 : (alW bs).2.fe = 0 := endF_zero (by simpa using h0)
    have e2 : (alS bs).2.fe = 0 := by rw [← h2.1]; exact rdI_bad bs 0 60 3 _ (rAll_bad (fun s => rdW_stuck bs s) _ _ e3)
    have e1 : (alR bs).2.fe = 0 := by rw [← h1.1]; exact rdI_bad bs 0 60 3 _ (rAll_bad (fun s => rdSp_stuck bs s) _ _ e2)
    have e : rawE bs = rawD bs := by unfold rawE rawD; rw [h1.2 e1, h2.2 e2, h3.2 e3]
    rw [e]
theorem rawD_ok (bs : List UInt8) (hb : bs.length ≤ 1000000) : EfOk (rawD bs) ∧ ((alR bs).2.Fine bs ∧ (alS bs).2.Fine bs ∧ (alW bs).2.Fine bs) := by
  have hl : ∀ (s : RS) (h : s.Fine bs), (rdI bs 0 60 3 s).1.toNat ≤ 100000 := fun s h => by have := rdI_in bs 60 3 (by decide) s h; omega
  obtain ⟨f1, f2, f3, f4, f5⟩ := lsW_fine bs
  have h1 : (lsR bs).2 = (alR bs).2 := (rAcc_all (fun s => rdT_stuck bs 32 s) _ _).1
  have h2 : (lsS bs).2 = (alS bs).2 := (rAcc_all (fun s => rdSp_stuck bs s) _ _).1
  have h3 : (lsW bs).2 = (alW bs).2 := (rAcc_all (fun s => rdW_stuck bs s) _ _).1
  have hm : ∀ {α : Type} {one : RS → α × RS} {q : α → Prop} (hq : ∀ s, q (one s).1) (s : RS) (n : Nat), ∀ x ∈ (rAll one s n).1, q x := by
    intro α one q hq s n
    induction n with
    | zero => intro x hx; cases hx
    | succ n ih =>
      intro x hx
      rcases List.mem_append.1 hx with h | h
      · exact ih x h
      · rw [List.mem_singleton.1 h]; exact hq _
  refine ⟨⟨?_, ?_, ?_, ?_, ?_, ?_⟩, h1 ▸ f3, h2 ▸ f4, h3 ▸ f5⟩
  · show (rAll _ _ _).1.length ≤ _; rw [rAll_len]; exact hl _ f2
  · show (rAll _ _ _).1.length ≤ _; rw [rAll_len]; exact hl _ f3
  · show (rAll _ _ _).1.length ≤ _; rw [rAll_len]; exact hl _ f4
  · exact hm (q := fun t : Str => t.length ≤ 1000000) (fun s => Nat.le_trans (rdT_len bs 32 s) hb) _ _
  · exact hm (q := fun s : Sp => s.lo.length ≤ 1000000 ∧ s.hi.length ≤ 1000000) (fun s => ⟨Nat.le_trans (rdT_len bs 64 _) hb, Nat.le_trans (rdT_len bs 64 _) hb⟩) _ _
  · refine hm (q := fun w : Wt => w.k.length ≤ 1000000 ∧ w.v.length ≤ 1000000) (fun s => ?_) _ _
    unfold rdW
    split
    · exact ⟨Nat.le_trans (rdT_len bs 32 _) hb, by simp⟩
    · exact ⟨Nat.le_trans (rdT_len bs 32 _) hb, Nat.le_trans (rdT_len bs 64 _) hb⟩
def yds (p : Nat) (A : Option Addr) (n c : Nat) (s : RS) : SL := yrd p A n c s.pl s.fe s.fa
theorem yTextS_any {W w : World} {l : List SL} (p : Nat) (A : Option Addr) (c : Nat) (bs : List UInt8) (s : RS) (high : Int) (hs : s.Fine bs) (hb : bs.length ≤ 1000000000) (hA : Bsl A bs.length c) (hr : RdL W l A (bs.map B)) (H : Sat W w (yds p A bs.length c s :: l)) :
    Calls Tryz.prog 95 #[.pointer (some ⟨p, 0, none⟩), .int .i64 high] w fun e w' => e = .returned (.string ⟨(rdT bs high s).1.toArray⟩) ∧ Sat W w' (yds p A bs.length c (rdT bs high s).2 :: l) := yText_any p A c bs s.pl s.fe s.fa hs.1 hb hs.2 hA hr high H
theorem yIntS_any {W w : World} {l : List SL} (p : Nat) (A : Option Addr) (c : Nat) (bs : List UInt8) (s : RS) (low high : Int) (hs : s.Fine bs) (hb : bs.length ≤ 1000000000) (hr : RdL W l A (bs.map B)) (H : Sat W w (yds p A bs.length c s :: l)) :
    Calls Tryz.prog 93 #[.pointer (some ⟨p, 0, none⟩), .int .i64 low, .int .i64 high] w fun e w' => e = .returned (.int .i64 (rdI bs low high 5 s).1) ∧ Sat W w' (yds p A bs.length c (rdI bs low high 5 s).2 :: l) := yInt_any p A c bs s.pl s.fe s.fa hs.1 hb hs.2 hr low high H
theorem yCountS_any {W w : World} {l : List SL} (p : Nat) (A : Option Addr) (c : Nat) (bs : List UInt8) (s : RS) (high : Int) (hs : s.Fine bs) (hb : bs.length ≤ 1000000000) (hr : RdL W l A (bs.map B)) (H : Sat W w (yds p A bs.length c s :: l)) :
    Calls Tryz.prog 94 #[.pointer (some ⟨p, 0, none⟩), .int .i64 high] w fun e w' => e = .returned (.int .i64 (rdI bs 0 high 3 s).1) ∧ Sat W w' (yds p A bs.length c (rdI bs 0 high 3 s).2 :: l) := yCount_any p A c bs s.pl s.fe s.fa hs.1 hb hs.2 hr high H
end Go.Proofs.YtodbmeklbamcfaaGreat

/- The document's way to read effects, as a contract. -/
namespace Go.Proofs.YtodbmeklbamcfaaGreat
open Go.RowKit Go.Rt

set_option maxRecDepth 100000 in
set_option maxHeartbeats 4000000 in
theorem rfRead_any {W w : World} {L : List SL} (A : Option Addr) (c : Nat) (bs : List UInt8) (hA : Bsl A bs.length c) (hr : RdL W L A (bs.map B)) (hb : bs.length ≤ 1000000) (H : Sat W w L) :
    Calls Tryz.prog 32 #[.slice A bs.length c] w fun e w' => EReadPost W L (readE bs) e w' := by
  obtain ⟨i0, hi, hz0, hz1, hz2⟩ := info_parts infoStr
  obtain ⟨i1, hi1, hz3, hz4, hz5⟩ := info_parts infoSp
  obtain ⟨i2, hi2, hz6, hz7, hz8⟩ := info_parts infoWt
  obtain ⟨hok, d3, d4, d5⟩ := rawD_ok bs hb
  obtain ⟨f1, f2, f3, f4, f5⟩ := lsW_fine bs
  have hb9 : bs.length ≤ 1000000000 := by omega
  have hfa : (endF bs (alW bs).2.pl (alW bs).2.fe (alW bs).2.fa).1 = 0 → (endF bs (alW bs).2.pl (alW bs).2.fe (alW bs).2.fa).2 = 0 := fun h => by
    have h0 := endF_zero h
    unfold endF at h ⊢
    split at h
    · exact absurd h (by simp)
    · rw [if_neg (by assumption)]; exact d5.2 h0
  have HFA := Lib.hid (hfa)
  clear hfa
  have eR := readD bs
  have eX : rawD bs = ⟨(stWhy bs).1, (stSteps bs).1, (alR bs).1, (alS bs).1, (alW bs).1⟩ := rfl
  rw [eX] at eR hok
  clear eX
  show Calls _ _ _ _ fun e w' => EReadPost W L (readE bs) e w'
  generalize readE bs = R at *
  have K1 := fun (p : Nat) (w0 : World) (L0 : List SL) (hr0 : RdL W L0 A (bs.map B)) (h : Sat W w0 (yds p A bs.length c ⟨0, 0, 0⟩ :: L0)) => yIntS_any p A c bs ⟨0, 0, 0⟩ 0 3 ⟨Nat.zero_le _, fun _ => rfl⟩ hb9 hr0 h
  have K2 := fun (p : Nat) (w0 : World) (L0 : List SL) (hr0 : RdL W L0 A (bs.map B)) (h : Sat W w0 (yds p A bs.length c (stWhy bs).2 :: L0)) => yIntS_any p A c bs (stWhy bs).2 0 200 f1 hb9 hr0 h
  have K3 := fun (p : Nat) (w0 : World) (L0 : List SL) (hr0 : RdL W L0 A (bs.map B)) (h : Sat W w0 (yds p A bs.length c (stSteps bs).2 :: L0)) => yCountS_any p A c bs (stSteps bs).2 60 f2 hb9 hr0 h
  change ∀ (p : Nat) (w0 : World) (L0 : List SL), RdL W L0 A (bs.map B) → Sat W w0 (yds p A bs.length c ⟨0, 0, 0⟩ :: L0) → Calls Tryz.prog 93 #[.pointer (some ⟨p, 0, none⟩), .int .i64 0, .int .i64 3] w0 fun e w' => e = .returned (.int .i64 (stWhy bs).1) ∧ Sat W w' (yds p A bs.length c (stWhy bs).2 :: L0) at K1
  change ∀ (p : Nat) (w0 : World) (L0 : List SL), RdL W L0 A (bs.map B) → Sat W w0 (yds p A bs.length c (stWhy bs).2 :: L0) → Calls Tryz.prog 93 #[.pointer (some ⟨p, 0, none⟩), .int .i64 0, .int .i64 200] w0 fun e w' => e = .returned (.int .i64 (stSteps bs).1) ∧ Sat W w' (yds p A bs.length c (stSteps bs).2 :: L0) at K2
  change ∀ (p : Nat) (w0 : World) (L0 : List SL), RdL W L0 A (bs.map B) → Sat W w0 (yds p A bs.length c (stSteps bs).2 :: L0) → Calls Tryz.prog 94 #[.pointer (some ⟨p, 0, none⟩), .int .i64 60] w0 fun e w' => e = .returned (.int .i64 (ctR bs).1) ∧ Sat W w' (yds p A bs.length c (ctR bs).2 :: L0) at K3
  have g1 : 0 ≤ (ctR bs).1 ∧ (ctR bs).1 ≤ 60 := rdI_in bs 60 3 (by decide) _ f2
  have q1 : (ctR bs).2.Fine bs := rdI_fine bs 0 60 3 (by decide) _ f2
  have eA : alR bs = rAll (rdT bs 32) (ctR bs).2 (ctR bs).1.toNat := rfl
  generalize ctR bs = cR at *
  obtain ⟨nR, sR⟩ := cR
  dsimp only at g1 q1 eA K3
  obtain ⟨nR, rfl⟩ : ∃ n : Nat, nR = (n : Int) := ⟨nR.toNat, by omega⟩
  have hnR : nR ≤ 60 := by omega
  rw [show ((nR : Int)).toNat = nR from rfl] at eA
  have eS : (lsR bs).2 = (alR bs).2 := (rAcc_all (fun s => rdT_stuck bs 32 s) _ _).1
  have K4 := fun (p : Nat) (w0 : World) (L0 : List SL) (hr0 : RdL W L0 A (bs.map B)) (h : Sat W w0 (yds p A bs.length c (alR bs).2 :: L0)) => yCountS_any p A c bs (alR bs).2 60 d3 hb9 hr0 h
  have eS2 : rdI bs 0 60 3 (alR bs).2 = ctS bs := by rw [← eS]; rfl
  rw [eS2] at K4
  have g2 : 0 ≤ (ctS bs).1 ∧ (ctS bs).1 ≤ 60 := by rw [← eS2]; exact rdI_in bs 60 3 (by decide) _ d3
  have q2 : (ctS bs).2.Fine bs := by rw [← eS2]; exact rdI_fine bs 0 60 3 (by decide) _ d3
  have eB : alS bs = rAll (rdSp bs) (ctS bs).2 (ctS bs).1.toNat := rfl
  have eT : (lsS bs).2 = (alS bs).2 := (rAcc_all (fun s => rdSp_stuck bs s) _ _).1
  have K5 := fun (p : Nat) (w0 : World) (L0 : List SL) (hr0 : RdL W L0 A (bs.map B)) (h : Sat W w0 (yds p A bs.length c (alS bs).2 :: L0)) => yCountS_any p A c bs (alS bs).2 60 d4 hb9 hr0 h
  have eT2 : rdI bs 0 60 3 (alS bs).2 = ctW bs := by rw [← eT]; rfl
  rw [eT2] at K5
  have g3 : 0 ≤ (ctW bs).1 ∧ (ctW bs).1 ≤ 60 := by rw [← eT2]; exact rdI_in bs 60 3 (by decide) _ d4
  have q3 : (ctW bs).2.Fine bs := by rw [← eT2]; exact rdI_fine bs 0 60 3 (by decide) _ d4
  have eC : alW bs = rAll (rdW bs) (ctW bs).2 (ctW bs).1.toNat := rfl
  have K6 := fun (p : Nat) (w0 : World) (L0 : List SL) (h : Sat W w0 (yds p A bs.length c (alW bs).2 :: L0)) => yEnd_any p A c bs (alW bs).2.pl (alW bs).2.fe (alW bs).2.fa d5.1 h
  clear eS eS2 eT eT2
  generalize ctW bs = cW at *
  obtain ⟨nW, sW⟩ := cW
  dsimp only at g3 q3 eC K5
  obtain ⟨nW, rfl⟩ : ∃ n : Nat, nW = (n : Int) := ⟨nW.toNat, by omega⟩
  have hnW : nW ≤ 60 := by omega
  rw [show ((nW : Int)).toNat = nW from rfl] at eC
  have hfW : ∀ j, (rAll (rdW bs) sW j).2.Fine bs := rAll_keeps (p := fun s => s.Fine bs) (fun s h => rdW_fine bs s h) q3
  have HFW := Lib.hid (hfW)
  have H5' := Lib.hid (K5)
  have H6' := Lib.hid (K6)
  have EC := Lib.hid (eC)
  generalize ctS bs = cS at *
  obtain ⟨nS, sS⟩ := cS
  dsimp only at g2 q2 eB K4
  obtain ⟨nS, rfl⟩ : ∃ n : Nat, nS = (n : Int) := ⟨nS.toNat, by omega⟩
  have hnS : nS ≤ 60 := by omega
  rw [show ((nS : Int)).toNat = nS from rfl] at eB
  have hfS : ∀ j, (rAll (rdSp bs) sS j).2.Fine bs := rAll_keeps (p := fun s => s.Fine bs) (fun s h => rdSp_fine bs s h) q2
  have HFS := Lib.hid (hfS)
  have H4' := Lib.hid (K4)
  have EB := Lib.hid (eB)
  have hfR : ∀ j, (rAll (rdT bs 32) sR j).2.Fine bs := rAll_keeps (p := fun s => s.Fine bs) (fun s h => rdT_fine bs 32 s h) q1
  have HFR := Lib.hid (hfR)
  have H1' := Lib.hid (K1)
  have H2' := Lib.hid (K2)
  have H3' := Lib.hid (K3)
  have HR := Lib.hid (eR)
  have HOK := Lib.hid (hok)
  have EA := Lib.hid (eA)
  have G0 := (H.alloc #[.int .i64 0, .int .i64 0, .slice none 0 0, .slice none 0 0, .slice none 0 0] 26).alloc #[.int .i64 0, .int .i64 0] 45
  rw [World.size_alloc] at G0
  have hop := xOpen_any A bs.length c G0
  generalize hp : ((w.alloc (.cells #[.int .i64 0, .int .i64 0, .slice none 0 0, .slice none 0 0, .slice none 0 0] 26)).alloc (.cells #[.int .i64 0, .int .i64 0] 45)).heap.size = p at hop
  clear hp
  have HOP := Lib.hid (hop)
  have HRB := Lib.hid (hr)
  have HB9 := Lib.hid (hb9)
  clear hfS hfW K5 K6 eC g3 q3 K4 eB g2 q2 hop hr G0 H K1 K2 K3 eR hok g1 q1 eA hfR f1 f2 f3 f4 f5 d3 d4 d5 hb9 hb
  go_enter Tryz.func32, Tryz.ntmps32
  go_wp2_with fail
  refine (HOP.out).mono ?_
  rintro e w1 ⟨rfl, G1⟩
  go_wp2_with fail
  refine (H1'.out p _ _ HRB.out.tail.tail G1).mono ?_
  rintro e w2 ⟨rfl, G2⟩
  go_wp2_with fail
  refine (H2'.out p _ _ HRB.out.tail.tail G2).mono ?_
  rintro e w3 ⟨rfl, G3⟩
  have G4 := G3.alloc #[.int .i64 (stWhy bs).1, .int .i64 (stSteps bs).1, .slice none 0 0, .slice none 0 0, .slice none 0 0] 26
  go_wp2_with fail
  refine (H3'.out p _ _ HRB.out.tail.tail.tail G4.swap).mono ?_
  rintro e w4 ⟨rfl, G5⟩
  generalize w3.heap.size = qx at *
  have G6 := G5.new_nil 9 [.string ⟨#[]⟩]
  have H6w := G6.pull 2
  generalize (stWhy bs).1 = why at *
  generalize (stSteps bs).1 = steps at *
  clear H1' H2' H3' HOP G1 G2 G3 G4
  go_wp2
  go_loopw [6] (fun i wc => ∃ (j : Nat) (A' : Option Addr) (c' : Nat), j ≤ nR ∧ i = .int .i64 ((nR : Int) - j) ∧ Sat W wc (seenS 9 (.slice A' j c') j (tsC (rAll (rdT bs 32) sR j).1) :: yds p A bs.length c (rAll (rdT bs 32) sR j).2 :: pt qx #[.int .i64 why, .int .i64 steps, .slice A' j c', .slice none 0 0, .slice none 0 0] 26 :: pt (w.heap.size + 1) #[.int .i64 0, .int .i64 0] 45 :: pt w.heap.size #[.int .i64 0, .int .i64 0, .slice none 0 0, .slice none 0 0, .slice none 0 0] 26 :: L)) (fun i _ => (intOf i).toNat)
  case atStart => exact ⟨0, none, 0, by omega, by simp, G6⟩
  case round =>
    clear G5 G6 H6w
    obtain ⟨j, A', c', hj, rfl, H⟩ := hrel
    have hE := HFR.out j
    by_cases hlt : j < nR
    · have hgt : decide ((0 : Int) < (nR : Int) - j) = true := decide_eq_true (by omega)
      obtain ⟨t, ht⟩ : ∃ t, rAll (rdT bs 32) sR j = t := ⟨_, rfl⟩
      have hn : rAll (rdT bs 32) sR (j + 1) = ((rAll (rdT bs 32) sR j).1 ++ [(rdT bs 32 (rAll (rdT bs 32) sR j).2).1], (rdT bs 32 (rAll (rdT bs 32) sR j).2).2) := rfl
      rw [ht] at hn hE H
      obtain ⟨t, q⟩ := t
      dsimp only at hn hE H
      have HN := Lib.hid (hn)
      have hT := fun (w0 : World) (L0 : List SL) (hr0 : RdL W L0 A (bs.map B)) (h : Sat W w0 (yds p A bs.length c q :: L0)) => yTextS_any p A c bs q 32 hE HB9.out hA hr0 h
      have HT := Lib.hid (hT)
      obtain ⟨x, hx⟩ : ∃ x, rdT bs 32 q = x := ⟨_, rfl⟩
      obtain ⟨x, q'⟩ := x
      rw [hx] at HN HT
      dsimp only at HN HT
      clear hx ht hn hT hE
      go_wp2
      have D := H.drew
      have e0 : wr.drew.cell? ⟨qx, 2, none⟩ = some (.slice A' j c') := (D.pull 2).cell 2
      go_region_law (first
        | (go_simp
           go_at_call 95
           (refine (HT.out _ _ HRB.out.tail.tail.tail.tail D.swap).mono ?_)
           rintro e w5 ⟨rfl, H5⟩
           have e1 : w5.cell? ⟨qx, 2, none⟩ = some (.slice A' j c') := (H5.pull 2).cell 2
           have H7 := H5.alloc #[.string ⟨x.toArray⟩] 9
           have e2 := (H7.pull 3).cell 2)
        | ((refine step_append_new rfl (.tmp 25) (.tmp 28) 22 rfl 9 i0 _ zS 16 Tryz.underlying22 hi hz0 rfl hz1 hz2 (by simp) _ j _ (by simp [Act.eval]) (H7.pull 2) (some ⟨w5.heap.size, 0, none⟩) 1 1 [.string ⟨x.toArray⟩] (by simp [Act.eval]) rfl (RdL.pt _ H7) (by simp [Value.oneCell']) (by unfold maxLen; omega) (by omega) ?_)
           intro A7 c7 w7 H8
           have e3 : w7.cell? ⟨qx, 2, none⟩ = some (.slice A' j c') := (H8.pull 3).cell 2
           have e4 := (H8.pull 3).frz 2))
      all_goals
        have H9 := (H8.pull 3).setCell 2 (.slice A7 (j + 1) c7)
        have HA := ((H9.pull 2).tail.pull 2).pull 2
        go_wp2
        refine ⟨⟨j + 1, A7, c7, by omega, by go_num, ?_⟩, by simp [intOf]; omega⟩
        rw [HN.out]
        show Sat W _ (seenS 9 (.slice A7 (j + 1) c7) (j + 1) (tsC (t ++ [x])) :: _)
        rw [show tsC (t ++ [x]) = tsC t ++ [.string ⟨x.toArray⟩] by simp [tsC, encStr]]
        exact HA
    · obtain rfl : j = nR := by omega
      have hgt : decide ((0 : Int) < (j : Int) - j) = false := decide_eq_false (by omega)
      rw [← EA.out] at H
      go_wp2_with fail
      refine (H4'.out p _ _ HRB.out.tail.tail.tail.tail H.swap).mono ?_
      rintro e w5 ⟨rfl, H5⟩
      clear H
      have G7 := H5.nil 74 zSp
      have l1 : (alR bs).1.length = j := by rw [EA.out, rAll_len]
      have L1 := Lib.hid (l1)
      clear l1
      generalize (alR bs).1 = tR at *
      go_wp2
      go_loopw [7] (fun i wc => ∃ (k : Nat) (A2 : Option Addr) (c2 : Nat), k ≤ nS ∧ i = .int .i64 ((nS : Int) - k) ∧ Sat W wc (row 74 zSp (.slice A2 k c2) k (spC (rAll (rdSp bs) sS k).1) :: yds p A bs.length c (rAll (rdSp bs) sS k).2 :: pt qx #[.int .i64 why, .int .i64 steps, .slice A' j c', .slice A2 k c2, .slice none 0 0] 26 :: seenS 9 (.slice A' j c') j (tsC tR) :: pt (w.heap.size + 1) #[.int .i64 0, .int .i64 0] 45 :: pt w.heap.size #[.int .i64 0, .int .i64 0, .slice none 0 0, .slice none 0 0, .slice none 0 0] 26 :: L)) (fun i _ => (intOf i).toNat)
      case atStart => exact ⟨0, none, 0, by omega, by simp, (((G7.pull 3).pull 2).pull 2)⟩
      case round =>
        clear G7 H5
        obtain ⟨k, A2, c2, hk, rfl, H⟩ := hrel
        have hE := HFS.out k
        by_cases hlt : k < nS
        · have hgt : decide ((0 : Int) < (nS : Int) - k) = true := decide_eq_true (by omega)
          obtain ⟨t, ht⟩ : ∃ t, rAll (rdSp bs) sS k = t := ⟨_, rfl⟩
          have hn : rAll (rdSp bs) sS (k + 1) = ((rAll (rdSp bs) sS k).1 ++ [⟨(rdT bs 64 (rAll (rdSp bs) sS k).2).1, (rdT bs 64 (rdT bs 64 (rAll (rdSp bs) sS k).2).2).1⟩], (rdT bs 64 (rdT bs 64 (rAll (rdSp bs) sS k).2).2).2) := rfl
          rw [ht] at hn hE H
          obtain ⟨t, q⟩ := t
          dsimp only at hn hE H
          have HN := Lib.hid (hn)
          have hE2 := rdT_fine bs 64 q hE
          have hT := fun (w0 : World) (L0 : List SL) (hr0 : RdL W L0 A (bs.map B)) (h : Sat W w0 (yds p A bs.length c q :: L0)) => yTextS_any p A c bs q 64 hE HB9.out hA hr0 h
          have HT := Lib.hid (hT)
          obtain ⟨x, hx⟩ : ∃ x, rdT bs 64 q = x := ⟨_, rfl⟩
          obtain ⟨x, q'⟩ := x
          rw [hx] at HN HT hE2
          dsimp only at HN HT hE2
          have hU := fun (w0 : World) (L0 : List SL) (hr0 : RdL W L0 A (bs.map B)) (h : Sat W w0 (yds p A bs.length c q' :: L0)) => yTextS_any p A c bs q' 64 hE2 HB9.out hA hr0 h
          have HU := Lib.hid (hU)
          obtain ⟨y, hy⟩ : ∃ x, rdT bs 64 q' = x := ⟨_, rfl⟩
          obtain ⟨y, q2⟩ := y
          rw [hy] at HN HU
          dsimp only at HN HU
          clear hx hy ht hn hT hU hE hE2
          go_wp2
          have D := H.drew
          have e0 : wr.drew.cell? ⟨qx, 3, none⟩ = some (.slice A2 k c2) := (D.pull 2).cell 3
          go_region_law (first
            | (go_simp
               go_at_call 95
               refine (HU.out _ _ HRB.out.tail.tail.tail.tail.tail H6).mono ?_
               rintro e w7 ⟨rfl, H7⟩
               have e2 : w7.cell? ⟨qx, 3, none⟩ = some (.slice A2 k c2) := (H7.pull 2).cell 3
               have H8 := H7.alloc #[.string ⟨x.toArray⟩, .string ⟨y.toArray⟩] 74
               have e3 := (H8.pull 3).cell 3)
            | (go_simp
               go_at_call 95
               (refine (HT.out _ _ HRB.out.tail.tail.tail.tail.tail D.swap).mono ?_)
               rintro e w6 ⟨rfl, H6⟩
               have e1 : w6.cell? ⟨qx, 3, none⟩ = some (.slice A2 k c2) := (H6.pull 2).cell 3)
            | ((refine step_append_sl rfl (.tmp 38) (.tmp 44) 23 rfl 74 i1 _ zSp 32 Tryz.underlying23 hi1 hz3 rfl hz4 hz5 (by simp) zSp_like _ k _ (by simp [Act.eval]) (H8.pull 2) (some ⟨w7.heap.size, 0, none⟩) 1 1 [.string ⟨x.toArray⟩, .string ⟨y.toArray⟩] (by simp [Act.eval]) rfl (RdL.pt _ H8) (sp_one ⟨x, y⟩) (sp_typed ⟨x, y⟩) (by unfold maxLen; omega) (by omega) ?_)
               intro A7 c7 w9 H9
               have e4 : w9.cell? ⟨qx, 3, none⟩ = some (.slice A2 k c2) := (H9.pull 3).cell 3
               have e5 := (H9.pull 3).frz 3))
          all_goals
            have HA := (H9.pull 3).setCell 3 (.slice A7 (k + 1) c7)
            have HC := ((HA.pull 2).tail.pull 2).pull 2
            go_wp2
            refine ⟨⟨k + 1, A7, c7, by omega, by go_num, ?_⟩, by simp [intOf]; omega⟩
            rw [HN.out]
            show Sat W _ (row 74 zSp (.slice A7 (k + 1) c7) (k + 1) (spC (t ++ [(⟨x, y⟩ : Sp)])) :: _)
            rw [show spC (t ++ [(⟨x, y⟩ : Sp)]) = spC t ++ [.string ⟨x.toArray⟩, .string ⟨y.toArray⟩] by rw [spC_append]; rfl]
            exact HC
        · obtain rfl : k = nS := by omega
          have hgt : decide ((0 : Int) < (k : Int) - k) = false := decide_eq_false (by omega)
          rw [← EB.out] at H
          go_wp2_with fail
          refine (H5'.out p _ _ HRB.out.tail.tail.tail.tail.tail H.swap).mono ?_
          rintro e w6 ⟨rfl, H6⟩
          clear H
          have G8 := H6.nil 65 zWt
          have l2 : (alS bs).1.length = k := by rw [EB.out, rAll_len]
          have L2 := Lib.hid (l2)
          clear l2
          generalize (alS bs).1 = tS at *
          go_wp2
          go_loopw [8] (fun i wc => ∃ (n : Nat) (A3 : Option Addr) (c3 : Nat), n ≤ nW ∧ i = .int .i64 ((nW : Int) - n) ∧ Sat W wc (row 65 zWt (.slice A3 n c3) n (wtC (rAll (rdW bs) sW n).1) :: yds p A bs.length c (rAll (rdW bs) sW n).2 :: pt qx #[.int .i64 why, .int .i64 steps, .slice A' j c', .slice A2 k c2, .slice A3 n c3] 26 :: row 74 zSp (.slice A2 k c2) k (spC tS) :: seenS 9 (.slice A' j c') j (tsC tR) :: pt (w.heap.size + 1) #[.int .i64 0, .int .i64 0] 45 :: pt w.heap.size #[.int .i64 0, .int .i64 0, .slice none 0 0, .slice none 0 0, .slice none 0 0] 26 :: L)) (fun i _ => (intOf i).toNat)
          case atStart => exact ⟨0, none, 0, by omega, by simp, (((G8.pull 3).pull 2).pull 2)⟩
          case round =>
            clear G8 H6
            obtain ⟨n, A3, c3, hn, rfl, H⟩ := hrel
            have hE := HFW.out n
            by_cases hlt : n < nW
            · have hgt : decide ((0 : Int) < (nW : Int) - n) = true := decide_eq_true (by omega)
              obtain ⟨t, ht⟩ : ∃ t, rAll (rdW bs) sW n = t := ⟨_, rfl⟩
              have hn1 : rAll (rdW bs) sW (n + 1) = ((rAll (rdW bs) sW n).1 ++ [(rdW bs (rAll (rdW bs) sW n).2).1], (rdW bs (rAll (rdW bs) sW n).2).2) := rfl
              rw [ht] at hn1 hE H
              obtain ⟨t, q⟩ := t
              dsimp only at hn1 hE H
              obtain ⟨Y, hY⟩ : ∃ Y, rdW bs q = Y := ⟨_, rfl⟩
              have hw : Y = if (rdI bs 0 1 5 (rdT bs 32 q).2).1 = 1 then (⟨(rdT bs 32 q).1, [], true⟩, (rdI bs 0 1 5 (rdT bs 32 q).2).2) else (⟨(rdT bs 32 q).1, (rdT bs 64 (rdI bs 0 1 5 (rdT bs 32 q).2).2).1, false⟩, (rdT bs 64 (rdI bs 0 1 5 (rdT bs 32 q).2).2).2) := hY.symm
              rw [hY] at hn1
              have hE2 := rdT_fine bs 32 q hE
              have hT := fun (w0 : World) (L0 : List SL) (hr0 : RdL W L0 A (bs.map B)) (h : Sat W w0 (yds p A bs.length c q :: L0)) => yTextS_any p A c bs q 32 hE HB9.out hA hr0 h
              obtain ⟨x, hx⟩ : ∃ x, rdT bs 32 q = x := ⟨_, rfl⟩
              obtain ⟨x, q1⟩ := x
              rw [hx] at hT hE2 hw
              dsimp only at hT hE2 hw
              have hE3 := rdI_fine bs 0 1 5 (by decide) q1 hE2
              have hI := fun (w0 : World) (L0 : List SL) (hr0 : RdL W L0 A (bs.map B)) (h : Sat W w0 (yds p A bs.length c q1 :: L0)) => yIntS_any p A c bs q1 0 1 hE2 HB9.out hr0 h
              obtain ⟨d, hd⟩ : ∃ x, rdI bs 0 1 5 q1 = x := ⟨_, rfl⟩
              obtain ⟨d, q2⟩ := d
              rw [hd] at hI hE3 hw
              dsimp only at hI hE3 hw
              have hV := fun (w0 : World) (L0 : List SL) (hr0 : RdL W L0 A (bs.map B)) (h : Sat W w0 (yds p A bs.length c q2 :: L0)) => yTextS_any p A c bs q2 64 hE3 HB9.out hA hr0 h
              obtain ⟨y, hy⟩ : ∃ x, rdT bs 64 q2 = x := ⟨_, rfl⟩
              obtain ⟨y, q3⟩ := y
              rw [hy] at hV hw
              dsimp only at hV hw
              have HN := Lib.hid (hn1)
              have HT := Lib.hid (hT)
              have HI := Lib.hid (hI)
              have HV := Lib.hid (hV)
              clear hx hy hd ht hn1 hT hI hV hY hE hE2 hE3
              by_cases hd1 : d = 1
              · subst hd1
                obtain rfl : Y = (⟨x, [], true⟩, q2) := by rw [hw, if_pos rfl]
                clear hw HV
                go_wp2_with fail
                refine (HT.out _ _ HRB.out.tail.tail.tail.tail.tail.tail H.swap).mono ?_
                rintro e w7 ⟨rfl, H7⟩
                go_wp2_with fail
                refine (HI.out _ _ HRB.out.tail.tail.tail.tail.tail.tail H7).mono ?_
                rintro e w8 ⟨rfl, H8⟩
                clear H
                have H9 := H8.alloc #[.string ⟨x.toArray⟩, .string ⟨#[]⟩, .bool true] 65
                have u2 := H9.cell 2
                have e0 : World.cell? _ ⟨qx, 4, none⟩ = some (.slice A3 n c3) := (H9.pull 3).cell 4
                have HRD := Lib.hid ((RdL.pt _ H9 : Rd _ (some ⟨w8.heap.size, 0, none⟩) [.string ⟨x.toArray⟩, .string ⟨#[]⟩, .bool true]))
                have H10 := H9.alloc #[.string ⟨x.toArray⟩, .string ⟨#[]⟩, .bool true] 65
                rw [World.size_alloc] at H10
                go_wp2_with (first
                  | (at_builtin
                     (
                     refine wpList_append_sl rfl (.tmp 66) (.tmp 68) 24 rfl 65 i2 _ zWt 40 Tryz.underlying24 hi2 hz6 rfl hz7 hz8 (by simp) zWt_like _ n _ rfl (H10.pull 3) (some ⟨w8.heap.size + 1, 0, none⟩) 1 1 [.string ⟨x.toArray⟩, .string ⟨#[]⟩, .bool true] rfl rfl (RdL.pt _ H10) (wt_one (⟨x, [], true⟩ : Wt)) (wt_typed (⟨x, [], true⟩ : Wt)) (by unfold maxLen; omega) (by omega) ?_
                     intro A7 c7 w9 H11
                     have e4 : w9.cell? ⟨qx, 4, none⟩ = some (.slice A3 n c3) := (H11.pull 4).cell 4
                     have e5 := (H11.pull 4).frz 4))
                  | ((refine wpList_load_rd rfl (.tmp 9) 65 rfl w8.heap.size 0 [.string ⟨x.toArray⟩, .string ⟨#[]⟩, .bool true] (by rw [Tryz.underlying65]) wt_size (by simp [Act.eval]) HRD.out ?_)))
                refine ⟨⟨n + 1, A7, c7, by omega, by go_num, ?_⟩, by simp [intOf]; omega⟩
                have HB := (H11.pull 4).setCell 4 (.slice A7 (n + 1) c7)
                have HD := ((((HB.pull 2).tail.pull 2).tail.pull 2).pull 2)
                rw [HN.out]
                show Sat W _ (row 65 zWt (.slice A7 (n + 1) c7) (n + 1) (wtC (t ++ [(⟨x, [], true⟩ : Wt)])) :: _)
                rw [show wtC (t ++ [(⟨x, [], true⟩ : Wt)]) = wtC t ++ [.string ⟨x.toArray⟩, .string ⟨#[]⟩, .bool true] by rw [wtC_append]; rfl]
                exact HD
              · have hne : (d == 1) = false := beq_eq_false_iff_ne.2 hd1
                obtain rfl : Y = (⟨x, y, false⟩, q3) := by rw [hw, if_neg hd1]
                clear hw hd1
                go_wp2_with fail
                refine (HT.out _ _ HRB.out.tail.tail.tail.tail.tail.tail H.swap).mono ?_
                rintro e w7 ⟨rfl, H7⟩
                go_wp2_with fail
                refine (HI.out _ _ HRB.out.tail.tail.tail.tail.tail.tail H7).mono ?_
                rintro e w8 ⟨rfl, H8⟩
                clear H
                have H9 := H8.alloc #[.string ⟨x.toArray⟩, .string ⟨#[]⟩, .bool false] 65
                have u2 := H9.cell 2
                go_wp2_with fail
                refine (HV.out _ _ HRB.out.tail.tail.tail.tail.tail.tail.tail H9.swap).mono ?_
                rintro e w9 ⟨rfl, H10⟩
                have u3 := H10.swap.cell 1
                have u4 := H10.swap.frz 1
                have H11 := H10.swap.setCell 1 (.string ⟨y.toArray⟩)
                generalize hwx : w9.setCell ⟨w8.heap.size, 1, none⟩ (.string ⟨y.toArray⟩) = w10 at H11
                have e0 : w10.cell? ⟨qx, 4, none⟩ = some (.slice A3 n c3) := (H11.pull 3).cell 4
                have HRD := Lib.hid ((RdL.pt _ H11 : Rd _ (some ⟨w8.heap.size, 0, none⟩) [.string ⟨x.toArray⟩, .string ⟨y.toArray⟩, .bool false]))
                have H12 := H11.alloc #[.string ⟨x.toArray⟩, .string ⟨y.toArray⟩, .bool false] 65
                go_wp2_with (first
                  | (at_builtin
                     (
                     refine wpList_append_sl rfl (.tmp 66) (.tmp 68) 24 rfl 65 i2 _ zWt 40 Tryz.underlying24 hi2 hz6 rfl hz7 hz8 (by simp) zWt_like _ n _ rfl (H12.pull 3) (some ⟨w10.heap.size, 0, none⟩) 1 1 [.string ⟨x.toArray⟩, .string ⟨y.toArray⟩, .bool false] rfl rfl (RdL.pt _ H12) (wt_one (⟨x, y, false⟩ : Wt)) (wt_typed (⟨x, y, false⟩ : Wt)) (by unfold maxLen; omega) (by omega) ?_
                     intro A7 c7 w11 H13
                     have e4 : w11.cell? ⟨qx, 4, none⟩ = some (.slice A3 n c3) := (H13.pull 4).cell 4
                     have e5 := (H13.pull 4).frz 4))
                  | (rw [hwx])
                  | ((refine wpList_load_rd rfl (.tmp 9) 65 rfl w8.heap.size 0 [.string ⟨x.toArray⟩, .string ⟨y.toArray⟩, .bool false] (by rw [Tryz.underlying65]) wt_size (by simp [Act.eval]) HRD.out ?_)))
                refine ⟨⟨n + 1, A7, c7, by omega, by go_num, ?_⟩, by simp [intOf]; omega⟩
                have HB := (H13.pull 4).setCell 4 (.slice A7 (n + 1) c7)
                have HD := ((((HB.pull 2).tail.pull 2).tail.pull 2).pull 2)
                rw [HN.out]
                show Sat W _ (row 65 zWt (.slice A7 (n + 1) c7) (n + 1) (wtC (t ++ [(⟨x, y, false⟩ : Wt)])) :: _)
                rw [show wtC (t ++ [(⟨x, y, false⟩ : Wt)]) = wtC t ++ [.string ⟨x.toArray⟩, .string ⟨y.toArray⟩, .bool false] by rw [wtC_append]; rfl]
                exact HD
            · obtain rfl : n = nW := by omega
              have hgt : decide ((0 : Int) < (n : Int) - n) = false := decide_eq_false (by omega)
              rw [← EC.out] at H
              have l3 : (alW bs).1.length = n := by rw [EC.out, rAll_len]
              have L3 := Lib.hid (l3)
              clear l3
              generalize (alW bs).1 = tW at *
              generalize (alW bs).2 = sF at *
              generalize endF bs sF.pl sF.fe sF.fa = E at *
              obtain ⟨fe, fa⟩ := E
              dsimp only at H6' HR HFA
              go_wp2_with fail
              refine (H6'.out p _ _ H.swap).mono ?_
              rintro e w7 ⟨rfl, H7⟩
              clear H
              have l1 := L1.out
              have l2 := L2.out
              have l3 := L3.out
              subst l1 l2 l3
              have H8 := H7.alloc #[.int .i64 fe, .int .i64 fa] 45
              have H9 := ((H8.pull 5).pull 5).pull 4
              clear H5' H6' H7 H8 HFW HFS HFR EA EB EC L1 L2 L3
              generalize w.heap.size + 1 = qf at *
              generalize w.heap.size = qe at *
              have n1 : qe ≠ qf := ((H9.pull 6).pull 7).ne
              have n2 : qf ≠ qe := fun h => n1 h.symm
              have n3 : qe ≠ w7.heap.size := ((H9.pull 3).pull 7).ne
              have n4 : w7.heap.size ≠ qe := fun h => n3 h.symm
              have n5 : qf ≠ w7.heap.size := ((H9.pull 3).pull 6).ne
              have n6 : w7.heap.size ≠ qf := fun h => n5 h.symm
              have n7 : qe ≠ qx := ((H9.pull 5).pull 7).ne
              have n8 : qx ≠ qe := fun h => n7 h.symm
              have n9 : qf ≠ qx := ((H9.pull 5).pull 6).ne
              have n10 : qx ≠ qf := fun h => n9 h.symm
              by_cases hf : fe = 0
              · subst hf
                obtain rfl : fa = 0 := HFA.out rfl
                have m0 := (H9.pull 3).cell 0
                have HRD := Lib.hid ((RdL.pt _ (H9.pull 5) : Rd _ (some ⟨qx, 0, none⟩) (Ef.cs ⟨why, steps, tR, tS, tW⟩ ⟨A', c', A2, c2, A3, c3⟩)))
                have HCK := Lib.hid (rfChk_any ⟨why, steps, tR, tS, tW⟩ ⟨A', c', A2, c2, A3, c3⟩ HOK.out (efN_rd (x := ⟨why, steps, tR, tS, tW⟩) (q := ⟨A', c', A2, c2, A3, c3⟩) H9) H9)
                generalize hck : checkX ⟨why, steps, tR, tS, tW⟩ = ck at *
                go_wp2_with (refine wpList_load_rdw (by rfl) (.tmp 5) 26 rfl qx 0 (Ef.cs ⟨why, steps, tR, tS, tW⟩ ⟨A', c', A2, c2, A3, c3⟩) (by rw [Tryz.underlying26]) ef_size (by simp [Act.eval]) HRD.out ?_)
                refine (HCK.out).mono ?_
                rintro e w12 ⟨rfl, H10⟩
                clear HCK HRD m0 HOK hck
                generalize w7.heap.size = qt at *
                by_cases hc : ck = 0
                · subst hc
                  obtain rfl : R = (⟨why, steps, tR, tS, tW⟩, 0, 0) := by rw [HR.out, if_neg (by simp), if_neg (by simp)]
                  clear HR
                  have z0 : w12.cell? ⟨qe, 0, none⟩ = some (Value.int .i64 0) := (H10.pull 7).cell 0
                  have z1 : w12.cell? ⟨qe, 1, none⟩ = some (Value.int .i64 0) := (H10.pull 7).cell 1
                  have z2 : w12.cell? ⟨qe, 2, none⟩ = some (Value.slice none 0 0) := (H10.pull 7).cell 2
                  have z3 : w12.cell? ⟨qe, 3, none⟩ = some (Value.slice none 0 0) := (H10.pull 7).cell 3
                  have z4 : w12.cell? ⟨qe, 4, none⟩ = some (Value.slice none 0 0) := (H10.pull 7).cell 4
                  have f0 := (H10.pull 7).frz 0
                  have f1 := (H10.pull 7).frz 1
                  have f2 := (H10.pull 7).frz 2
                  have f3 := (H10.pull 7).frz 3
                  have f4 := (H10.pull 7).frz 4
                  have y0 : w12.cell? ⟨qf, 0, none⟩ = some (Value.int .i64 0) := (H10.pull 6).cell 0
                  have y1 : w12.cell? ⟨qf, 1, none⟩ = some (Value.int .i64 0) := (H10.pull 6).cell 1
                  have g0 := (H10.pull 6).frz 0
                  have g1 := (H10.pull 6).frz 1
                  have j0 : w12.cell? ⟨qx, 0, none⟩ = some (.int .i64 why) := (H10.pull 5).cell 0
                  have j1 : w12.cell? ⟨qx, 1, none⟩ = some (.int .i64 steps) := (H10.pull 5).cell 1
                  have j2 : w12.cell? ⟨qx, 2, none⟩ = some (.slice A' tR.length c') := (H10.pull 5).cell 2
                  have j3 : w12.cell? ⟨qx, 3, none⟩ = some (.slice A2 tS.length c2) := (H10.pull 5).cell 3
                  have j4 : w12.cell? ⟨qx, 4, none⟩ = some (.slice A3 tW.length c3) := (H10.pull 5).cell 4
                  have m0 : w12.cell? ⟨qt, 0, none⟩ = some (.int .i64 0) := (H10.pull 3).cell 0
                  have m1 : w12.cell? ⟨qt, 1, none⟩ = some (.int .i64 0) := (H10.pull 3).cell 1
                  go_wp2
                  go_region_law (fail)
                  all_goals
                    have HZ := (((((((((H10.pull 7).setCell 0 (.int .i64 why)).setCell 1 (.int .i64 steps)).setCell 2 (.slice A' tR.length c')).setCell 3 (.slice A2 tS.length c2)).setCell 4 (.slice A3 tW.length c3)).pull 7).setCell 0 (.int .i64 0)).setCell 1 (.int .i64 0))
                    have HZ := HZ.drew
                    generalize World.drew _ = wz at HZ ⊢
                    have z0 : wz.cell? ⟨qe, 0, none⟩ = some (.int .i64 why) := HZ.swap.cell 0
                    have z1 : wz.cell? ⟨qe, 1, none⟩ = some (.int .i64 steps) := HZ.swap.cell 1
                    have z2 : wz.cell? ⟨qe, 2, none⟩ = some (.slice A' tR.length c') := HZ.swap.cell 2
                    have z3 : wz.cell? ⟨qe, 3, none⟩ = some (.slice A2 tS.length c2) := HZ.swap.cell 3
                    have z4 : wz.cell? ⟨qe, 4, none⟩ = some (.slice A3 tW.length c3) := HZ.swap.cell 4
                    have y0 : wz.cell? ⟨qf, 0, none⟩ = some (.int .i64 0) := HZ.cell 0
                    have y1 : wz.cell? ⟨qf, 1, none⟩ = some (.int .i64 0) := HZ.cell 1
                    go_wp2
                    refine bodyPost_ret (v := .tuple #[Ef.v ⟨why, steps, tR, tS, tW⟩ ⟨A', c', A2, c2, A3, c3⟩, .agg #[.int .i64 0, .int .i64 0]]) ?_ rfl ⟨⟨A', c', A2, c2, A3, c3⟩, rfl, ?_⟩
                    · simp [results, Tryz.results32, go_sem, z0, z1, z2, z3, z4, y0, y1, noE, Ef.v, Ef.cs]
                    · exact ((((HZ.tail.tail).pull 3).tail.pull 3).tail.pull 3).tail
                · have e1 : (ck != 0) = true := by simpa using hc
                  obtain rfl : R = (noE, 2, 0) := by rw [HR.out, if_neg (by simp), if_pos hc]
                  clear HR
                  have m0 : w12.cell? ⟨qt, 0, none⟩ = some (.int .i64 0) := (H10.pull 3).cell 0
                  have k0 := (H10.pull 3).frz 0
                  have k1 := (H10.pull 3).frz 1
                  have m1 : w12.cell? ⟨qt, 1, none⟩ = some (.int .i64 0) := (H10.pull 3).cell 1
                  have H11 := (((((H10.pull 3).setCell 0 (.int .i64 2)).setCell 1 (.int .i64 0)).pull 3).pull 3).pull 3
                  go_wp2
                  generalize World.setCell _ ⟨qt, 1, none⟩ _ = w13 at H11 ⊢
                  have m0 : w13.cell? ⟨qt, 0, none⟩ = some (.int .i64 2) := (H11.pull 3).cell 0
                  have m1 : w13.cell? ⟨qt, 1, none⟩ = some (.int .i64 0) := (H11.pull 3).cell 1
                  have z0 : w13.cell? ⟨qe, 0, none⟩ = some (Value.int .i64 0) := (H11.pull 7).cell 0
                  have z1 : w13.cell? ⟨qe, 1, none⟩ = some (Value.int .i64 0) := (H11.pull 7).cell 1
                  have z2 : w13.cell? ⟨qe, 2, none⟩ = some (Value.slice none 0 0) := (H11.pull 7).cell 2
                  have z3 : w13.cell? ⟨qe, 3, none⟩ = some (Value.slice none 0 0) := (H11.pull 7).cell 3
                  have z4 : w13.cell? ⟨qe, 4, none⟩ = some (Value.slice none 0 0) := (H11.pull 7).cell 4
                  have f0 := (H11.pull 7).frz 0
                  have f1 := (H11.pull 7).frz 1
                  have f2 := (H11.pull 7).frz 2
                  have f3 := (H11.pull 7).frz 3
                  have f4 := (H11.pull 7).frz 4
                  have y0 : w13.cell? ⟨qf, 0, none⟩ = some (Value.int .i64 0) := (H11.pull 6).cell 0
                  have y1 : w13.cell? ⟨qf, 1, none⟩ = some (Value.int .i64 0) := (H11.pull 6).cell 1
                  have g0 := (H11.pull 6).frz 0
                  have g1 := (H11.pull 6).frz 1
                  go_region_law (fail)
                  all_goals
                    have HZ := (((((((((H11.pull 7).setCell 0 (Value.int .i64 0)).setCell 1 (Value.int .i64 0)).setCell 2 (Value.slice none 0 0)).setCell 3 (Value.slice none 0 0)).setCell 4 (Value.slice none 0 0)).pull 7).setCell 0 (.int .i64 2)).setCell 1 (.int .i64 0))
                    have HZ := HZ.drew
                    generalize World.drew _ = wz at HZ ⊢
                    have z0 : wz.cell? ⟨qe, 0, none⟩ = some (Value.int .i64 0) := HZ.swap.cell 0
                    have z1 : wz.cell? ⟨qe, 1, none⟩ = some (Value.int .i64 0) := HZ.swap.cell 1
                    have z2 : wz.cell? ⟨qe, 2, none⟩ = some (Value.slice none 0 0) := HZ.swap.cell 2
                    have z3 : wz.cell? ⟨qe, 3, none⟩ = some (Value.slice none 0 0) := HZ.swap.cell 3
                    have z4 : wz.cell? ⟨qe, 4, none⟩ = some (Value.slice none 0 0) := HZ.swap.cell 4
                    have y0 : wz.cell? ⟨qf, 0, none⟩ = some (.int .i64 2) := HZ.cell 0
                    have y1 : wz.cell? ⟨qf, 1, none⟩ = some (.int .i64 0) := HZ.cell 1
                    go_wp2
                    refine bodyPost_ret (v := .tuple #[noE.v ⟨none, 0, none, 0, none, 0⟩, .agg #[.int .i64 2, .int .i64 0]]) ?_ rfl ⟨⟨none, 0, none, 0, none, 0⟩, rfl, ?_⟩
                    · simp [results, Tryz.results32, go_sem, z0, z1, z2, z3, z4, y0, y1, noE, Ef.v, Ef.cs]
                    · exact (((HZ.tail.tail.tail.tail.tail.tail.tail.tail).new_nil 9 [.string ⟨#[]⟩]).nil 74 zSp).nil 65 zWt
              · have e0 : (fe == 0) = false := beq_eq_false_iff_ne.2 hf
                have e1 : (fe != 0) = true := by simpa using hf
                obtain rfl : R = (noE, fe, fa) := by rw [HR.out, if_pos hf]
                clear HR HOK hf
                have m0 := (H9.pull 3).cell 0
                go_wp2
                generalize w7.alloc (.cells #[.int .i64 fe, .int .i64 fa] 45) = w8 at *
                generalize w7.heap.size = qt at *
                clear m0
                have m0 : w8.cell? ⟨qt, 0, none⟩ = some (.int .i64 fe) := (H9.pull 3).cell 0
                have m1 : w8.cell? ⟨qt, 1, none⟩ = some (.int .i64 fa) := (H9.pull 3).cell 1
                have z0 : w8.cell? ⟨qe, 0, none⟩ = some (Value.int .i64 0) := (H9.pull 7).cell 0
                have z1 : w8.cell? ⟨qe, 1, none⟩ = some (Value.int .i64 0) := (H9.pull 7).cell 1
                have z2 : w8.cell? ⟨qe, 2, none⟩ = some (Value.slice none 0 0) := (H9.pull 7).cell 2
                have z3 : w8.cell? ⟨qe, 3, none⟩ = some (Value.slice none 0 0) := (H9.pull 7).cell 3
                have z4 : w8.cell? ⟨qe, 4, none⟩ = some (Value.slice none 0 0) := (H9.pull 7).cell 4
                have f0 := (H9.pull 7).frz 0
                have f1 := (H9.pull 7).frz 1
                have f2 := (H9.pull 7).frz 2
                have f3 := (H9.pull 7).frz 3
                have f4 := (H9.pull 7).frz 4
                have y0 : w8.cell? ⟨qf, 0, none⟩ = some (Value.int .i64 0) := (H9.pull 6).cell 0
                have y1 : w8.cell? ⟨qf, 1, none⟩ = some (Value.int .i64 0) := (H9.pull 6).cell 1
                have g0 := (H9.pull 6).frz 0
                have g1 := (H9.pull 6).frz 1
                go_region_law (fail)
                all_goals
                  have HZ := (((((((((H9.pull 7).setCell 0 (Value.int .i64 0)).setCell 1 (Value.int .i64 0)).setCell 2 (Value.slice none 0 0)).setCell 3 (Value.slice none 0 0)).setCell 4 (Value.slice none 0 0)).pull 7).setCell 0 (.int .i64 fe)).setCell 1 (.int .i64 fa))
                  have HZ := HZ.drew
                  generalize World.drew _ = wz at HZ ⊢
                  have z0 : wz.cell? ⟨qe, 0, none⟩ = some (Value.int .i64 0) := HZ.swap.cell 0
                  have z1 : wz.cell? ⟨qe, 1, none⟩ = some (Value.int .i64 0) := HZ.swap.cell 1
                  have z2 : wz.cell? ⟨qe, 2, none⟩ = some (Value.slice none 0 0) := HZ.swap.cell 2
                  have z3 : wz.cell? ⟨qe, 3, none⟩ = some (Value.slice none 0 0) := HZ.swap.cell 3
                  have z4 : wz.cell? ⟨qe, 4, none⟩ = some (Value.slice none 0 0) := HZ.swap.cell 4
                  have y0 : wz.cell? ⟨qf, 0, none⟩ = some (.int .i64 fe) := HZ.cell 0
                  have y1 : wz.cell? ⟨qf, 1, none⟩ = some (.int .i64 fa) := HZ.cell 1
                  go_wp2
                  refine bodyPost_ret (v := .tuple #[noE.v ⟨none, 0, none, 0, none, 0⟩, .agg #[.int .i64 fe, .int .i64 fa]]) ?_ rfl ⟨⟨none, 0, none, 0, none, 0⟩, rfl, ?_⟩
                  · simp [results, Tryz.results32, go_sem, z0, z1, z2, z3, z4, y0, y1, noE, Ef.v, Ef.cs]
                  · exact (((HZ.tail.tail.tail.tail.tail.tail.tail.tail).new_nil 9 [.string ⟨#[]⟩]).nil 74 zSp).nil 65 zWt
end Go.Proofs.YtodbmeklbamcfaaGreat

/- EffectReads answers true. -/
namespace Go.Proofs.YtodbmeklbamcfaaGreat
open Go.RowKit Go.Rt

theorem readE_ok (bs : List UInt8) (hb : bs.length ≤ 1000000) : EfOk (readE bs).1 := by
  have h0 : EfOk noE := ⟨by simp [noE], by simp [noE], by simp [noE], fun t ht => by simp [noE] at ht, fun t ht => by simp [noE] at ht, fun t ht => by simp [noE] at ht⟩
  rw [readD]
  split
  · exact h0
  · split
    · exact h0
    · exact (rawD_ok bs hb).1
set_option maxRecDepth 100000 in
set_option maxHeartbeats 8000000 in
theorem lawEffectReads_any {W : World} (A0 : Option Addr) (c0 : Nat) (bs : List UInt8) (hA : Bsl A0 bs.length c0) (hr0 : Rd W A0 (bs.map B)) :
    Calls Tryz.prog 4 #[.slice A0 bs.length c0] W fun e w' => e = .returned (.bool true) ∧ Sat W w' [] := by
  by_cases hbig : 2000 < bs.length
  · have g0 : decide ((2000 : Int) < (bs.length : Int)) = true := decide_eq_true (by omega)
    clear hbig
    go_enter Tryz.func4, Tryz.ntmps4
    go_wp2
    go_ret
    exact ⟨rfl, Sat.start W⟩
  · have g0 : decide ((2000 : Int) < (bs.length : Int)) = false := decide_eq_false (by omega)
    have hb : bs.length ≤ 2000 := by omega
    clear hbig
    have HL := Lib.hid (lent_any A0 c0 bs (RdL.old hr0) (by omega) (Sat.start W))
    have hlen : (lent bs).length = bs.length + 3 := by simp [lent]
    have htk : (lent bs).take bs.length = bs := by simp [lent]
    have hrl : ∀ (g : Nat), RdL W [row 5 zB (.slice (some ⟨g, 0, none⟩) (bs.length + 3) (bs.length + 3)) (bs.length + 3) ((lent bs).map B)] (some ⟨g, 0, none⟩) (bs.map B) := fun g w' h => by
      have h1 := h.rd.take bs.length
      rw [← List.map_take, htk] at h1
      exact h1
    have hok := readE_ok bs (by omega)
    have K1 := fun (g : Nat) (w0 : World) (h : Sat W w0 [row 5 zB (.slice (some ⟨g, 0, none⟩) (bs.length + 3) (bs.length + 3)) (bs.length + 3) ((lent bs).map B)]) => efRead_any (some ⟨g, 0, none⟩) (bs.length + 3) bs (hrl g) (by omega) h
    have K2 := fun (w0 : World) (L0 : List SL) (h : Sat W w0 L0) => rfRead_any A0 c0 bs hA (RdL.old hr0) (by omega) h
    obtain ⟨⟨X, fe, fa⟩, hR⟩ : ∃ R, readE bs = R := ⟨_, rfl⟩
    simp only [hR] at K1 K2 hok
    have K1' : ∀ (g : Nat) (w0 : World), Sat W w0 [row 5 zB (.slice (some ⟨g, 0, none⟩) (bs.length + 3) (bs.length + 3)) (bs.length + 3) ((lent bs).map B)] → Calls Tryz.prog 31 #[.slice (some ⟨g, 0, none⟩) bs.length (bs.length + 3)] w0 fun e w' => ∃ q : EfAt, e = .returned (.tuple #[.agg #[.int .i64 X.why, .int .i64 X.steps, .slice q.A X.rs.length q.c, .slice q.A' X.ss.length q.c', .slice q.A'' X.ws.length q.c''], .agg #[.int .i64 fe, .int .i64 fa]]) ∧ Sat W w' (efN X q [row 5 zB (.slice (some ⟨g, 0, none⟩) (bs.length + 3) (bs.length + 3)) (bs.length + 3) ((lent bs).map B)]) := K1
    have K2' : ∀ (w0 : World) (L0 : List SL), Sat W w0 L0 → Calls Tryz.prog 32 #[.slice A0 bs.length c0] w0 fun e w' => ∃ q : EfAt, e = .returned (.tuple #[.agg #[.int .i64 X.why, .int .i64 X.steps, .slice q.A X.rs.length q.c, .slice q.A' X.ss.length q.c', .slice q.A'' X.ws.length q.c''], .agg #[.int .i64 fe, .int .i64 fa]]) ∧ Sat W w' (efN X q L0) := K2
    have K3 : ∀ (w0 : World) (L0 : List SL) (q p : EfAt), EfRd W L0 X q → EfRd W L0 X p → Sat W w0 L0 → Calls Tryz.prog 26 #[.agg #[.int .i64 X.why, .int .i64 X.steps, .slice q.A X.rs.length q.c, .slice q.A' X.ss.length q.c', .slice q.A'' X.ws.length q.c''], .agg #[.int .i64 X.why, .int .i64 X.steps, .slice p.A X.rs.length p.c, .slice p.A' X.ss.length p.c', .slice p.A'' X.ws.length p.c'']] w0 fun e w' => e = .returned (.bool true) ∧ Sat W w' L0 := fun w0 L0 q p h1 h2 h => by
      have := SameEffect_any X X q p hok h1 h2 h
      rw [decide_eq_true rfl] at this
      exact this
    have K4 : ∀ (w0 : World) (L0 : List SL) (g : Nat), RdL W L0 (some ⟨g, 0, none⟩) ((lent bs).map B) → Sat W w0 L0 → Calls Tryz.prog 33 #[.slice (some ⟨g, 0, none⟩) bs.length (bs.length + 3), .slice A0 bs.length c0] w0 fun e w' => e = .returned (.bool true) ∧ Sat W w' L0 := fun w0 L0 g h1 h => by
      have := kept_any (some ⟨g, 0, none⟩) A0 c0 (lent bs) bs h1 (RdL.old hr0) (by omega) (by omega) h
      rw [beq_self_eq_true, hlen] at this
      exact this
    have K5 : ∀ (w0 : World) (L0 : List SL) (q : EfAt), Sat W w0 (efN X q L0) → Calls Tryz.prog 34 #[.agg #[.int .i64 X.why, .int .i64 X.steps, .slice q.A X.rs.length q.c, .slice q.A' X.ss.length q.c', .slice q.A'' X.ws.length q.c'']] w0 fun e w' => e = .returned (.tuple #[]) ∧ Sat W w' L0 := fun w0 L0 q h => OverEffect_any X q hok.ts h
    have H1' := Lib.hid (K1')
    have H2' := Lib.hid (K2')
    have H3' := Lib.hid (K3)
    have H4' := Lib.hid (K4)
    have H5' := Lib.hid (K5)
    have HW := Lib.hid (fun (w0 : World) (L0 : List SL) (h : Sat W w0 L0) => efawake_any h)
    clear K1 K2 K1' K2' K3 K4 K5 hR hok hrl htk hlen hr0 hA
    go_enter Tryz.func4, Tryz.ntmps4
    go_wp2_with fail
    refine (HL.out).mono ?_
    rintro e w1 ⟨g, rfl, H1⟩
    clear HL
    go_wp2_with fail
    refine (H1'.out g _ H1).mono ?_
    rintro e w2 ⟨q, rfl, H2⟩
    have HQ1 := Lib.hid (efN_rd H2)
    have H3 := (H2.alloc #[.int .i64 X.why, .int .i64 X.steps, .slice q.A X.rs.length q.c, .slice q.A' X.ss.length q.c', .slice q.A'' X.ws.length q.c''] 26).alloc #[.int .i64 fe, .int .i64 fa] 45
    simp only [World.size_alloc] at H3
    clear H1 H2 H1'
    go_wp2_with fail
    refine (H2'.out _ _ H3).mono ?_
    rintro e w3 ⟨q', rfl, H4⟩
    have HQ2 := Lib.hid (efN_rd H4)
    have H5 := (H4.alloc #[.int .i64 X.why, .int .i64 X.steps, .slice q'.A X.rs.length q'.c, .slice q'.A' X.ss.length q'.c', .slice q'.A'' X.ws.length q'.c''] 26).alloc #[.int .i64 fe, .int .i64 fa] 45
    simp only [World.size_alloc] at H5
    clear H3 H4 H2'
    generalize w2.heap.size + 1 = pf at *
    generalize w2.heap.size = px at *
    have i0 := (H5.pull 6).cell 0
    have i1 := (H5.pull 6).cell 1
    have i2 := (H5.pull 6).cell 2
    have i3 := (H5.pull 6).cell 3
    have i4 := (H5.pull 6).cell 4
    have k0 := (H5.pull 1).cell 0
    have k1 := (H5.pull 1).cell 1
    have k2 := (H5.pull 1).cell 2
    have k3 := (H5.pull 1).cell 3
    have k4 := (H5.pull 1).cell 4
    go_wp2_with fail
    refine (H3'.out _ _ q q' HQ1.out.tail.tail.tail.tail.tail.tail.tail HQ2.out.tail.tail H5).mono ?_
    rintro e w4 ⟨rfl, H6⟩
    clear i0 i1 i2 i3 i4 k0 k1 k2 k3 k4 H5
    generalize w3.heap.size + 1 = pg at *
    generalize w3.heap.size = py at *
    have n0 := (H6.pull 5).cell 0
    have n1 := (H6.pull 5).cell 1
    have o0 := H6.cell 0
    have o1 := H6.cell 1
    go_wp2_with fail
    refine (H4'.out _ _ g (RdL.pull 10 RdL.row) H6).mono ?_
    rintro e w5 ⟨rfl, H7⟩
    clear n0 n1 o0 o1 H6
    have i0 := (H7.pull 6).cell 0
    have i1 := (H7.pull 6).cell 1
    have i2 := (H7.pull 6).cell 2
    have i3 := (H7.pull 6).cell 3
    have i4 := (H7.pull 6).cell 4
    go_wp2_with fail
    refine (H5'.out _ _ q (((H7.pull 9).pull 9).pull 9)).mono ?_
    rintro e w6 ⟨rfl, H8⟩
    go_wp2_with fail
    refine (HW.out _ _ H8).mono ?_
    rintro e w7 ⟨rfl, H9⟩
    go_wp2
    go_ret
    exact ⟨rfl, Sat.drops [_, _, _, _, _, _, _, _] H9⟩
end Go.Proofs.YtodbmeklbamcfaaGreat
