/- A pack of texts: KgD, KgG, KgH -/
import Derived.Test.YtodbmeklbamcfaaGreatPkKnownZG
import Derived.Test.YtodbmeklbamcfaaGreatPkKnownZC
import Derived.Test.YtodbmeklbamcfaaGreatPkKnownT
import Derived.Test.YtodbmeklbamcfaaGreatPkKnownS
/- How effects are read out of bytes. No program in sight. -/
namespace Go.Proofs.YtodbmeklbamcfaaGreat

def rdI (bs : List UInt8) (low high above : Int) (s : RS) : Int × RS := ((toldInt bs s.pl s.fe s.fa low high above).n, ⟨(toldInt bs s.pl s.fe s.fa low high above).pl, (toldInt bs s.pl s.fe s.fa low high above).fe, (toldInt bs s.pl s.fe s.fa low high above).fa⟩)
def rdT (bs : List UInt8) (high : Int) (s : RS) : Str × RS := ((toldTxt bs s.pl s.fe s.fa high).s, ⟨(toldTxt bs s.pl s.fe s.fa high).pl, (toldTxt bs s.pl s.fe s.fa high).fe, (toldTxt bs s.pl s.fe s.fa high).fa⟩)
def rdSp (bs : List UInt8) (s : RS) : Sp × RS := (⟨(rdT bs 64 s).1, (rdT bs 64 (rdT bs 64 s).2).1⟩, (rdT bs 64 (rdT bs 64 s).2).2)
def rdW (bs : List UInt8) (s : RS) : Wt × RS :=
  if (rdI bs 0 1 5 (rdT bs 32 s).2).1 = 1 then (⟨(rdT bs 32 s).1, [], true⟩, (rdI bs 0 1 5 (rdT bs 32 s).2).2)
  else (⟨(rdT bs 32 s).1, (rdT bs 64 (rdI bs 0 1 5 (rdT bs 32 s).2).2).1, false⟩, (rdT bs 64 (rdI bs 0 1 5 (rdT bs 32 s).2).2).2)
theorem rdI_stuck (bs : List UInt8) (low high above : Int) (s : RS) (h : s.fe ≠ 0) : (rdI bs low high above s).2 = s := by unfold rdI toldInt; rw [if_neg h]
theorem rdT_stuck (bs : List UInt8) (high : Int) (s : RS) (h : s.fe ≠ 0) : (rdT bs high s).2 = s := by unfold rdT toldTxt; rw [if_neg h]
theorem rdSp_stuck (bs : List UInt8) (s : RS) (h : s.fe ≠ 0) : (rdSp bs s).2 = s := by
  show (rdT bs 64 (rdT bs 64 s).2).2 = s
  rw [rdT_stuck bs 64 s h, rdT_stuck bs 64 s h]
theorem rdW_stuck (bs : List UInt8) (s : RS) (h : s.fe ≠ 0) : (rdW bs s).2 = s := by
  unfold rdW
  rw [rdT_stuck bs 32 s h, rdI_stuck bs 0 1 5 s h]
  split
  · rfl
  · exact rdT_stuck bs 64 s h
def RS.Fine (bs : List UInt8) (s : RS) : Prop := s.pl ≤ bs.length ∧ (s.fe = 0 → s.fa = 0)
theorem rdI_fine (bs : List UInt8) (low high above : Int) (ha : above ≠ 0) (s : RS) (h : s.Fine bs) : (rdI bs low high above s).2.Fine bs := iv_int bs s.pl s.fe s.fa low high above ha h.1 h.2
theorem rdT_fine (bs : List UInt8) (high : Int) (s : RS) (h : s.Fine bs) : (rdT bs high s).2.Fine bs := iv_txt bs s.pl s.fe s.fa high h.1 h.2
theorem rdSp_fine (bs : List UInt8) (s : RS) (h : s.Fine bs) : (rdSp bs s).2.Fine bs := rdT_fine bs 64 _ (rdT_fine bs 64 s h)
theorem rdW_fine (bs : List UInt8) (s : RS) (h : s.Fine bs) : (rdW bs s).2.Fine bs := by
  unfold rdW
  split
  · exact rdI_fine bs 0 1 5 (by decide) _ (rdT_fine bs 32 s h)
  · exact rdT_fine bs 64 _ (rdI_fine bs 0 1 5 (by decide) _ (rdT_fine bs 32 s h))
def stWhy (bs : List UInt8) : Int × RS := rdI bs 0 3 5 ⟨0, 0, 0⟩
def stSteps (bs : List UInt8) : Int × RS := rdI bs 0 200 5 (stWhy bs).2
def ctR (bs : List UInt8) : Int × RS := rdI bs 0 60 3 (stSteps bs).2
def lsR (bs : List UInt8) : List Str × RS := rAcc (rdT bs 32) (ctR bs).2 (ctR bs).1.toNat
def ctS (bs : List UInt8) : Int × RS := rdI bs 0 60 3 (lsR bs).2
def lsS (bs : List UInt8) : List Sp × RS := rAcc (rdSp bs) (ctS bs).2 (ctS bs).1.toNat
def ctW (bs : List UInt8) : Int × RS := rdI bs 0 60 3 (lsS bs).2
def lsW (bs : List UInt8) : List Wt × RS := rAcc (rdW bs) (ctW bs).2 (ctW bs).1.toNat
def rawE (bs : List UInt8) : Ef := ⟨(stWhy bs).1, (stSteps bs).1, (lsR bs).1, (lsS bs).1, (lsW bs).1⟩
def noE : Ef := ⟨0, 0, [], [], []⟩
/-- The effect of bytes, or the fault and its place. -/
def readE (bs : List UInt8) : Ef × Int × Int :=
  if (endF bs (lsW bs).2.pl (lsW bs).2.fe (lsW bs).2.fa).1 ≠ 0 then (noE, endF bs (lsW bs).2.pl (lsW bs).2.fe (lsW bs).2.fa)
  else if checkX (rawE bs) ≠ 0 then (noE, 2, 0) else (rawE bs, 0, 0)
end Go.Proofs.YtodbmeklbamcfaaGreat

/- An effect is read where it was written. No program in sight. -/
namespace Go.Proofs.YtodbmeklbamcfaaGreat

theorem rdI_here (pre rest : List UInt8) (n : Int) (low high above : Int) (h0 : 0 ≤ n) (h1 : low ≤ n) (h2 : n ≤ high) (h3 : high < 9223372036854775808) :
    rdI (pre ++ (sev n.toNat ++ rest)) low high above ⟨pre.length, 0, 0⟩ = (n, ⟨(pre ++ sev n.toNat).length, 0, 0⟩) := by
  unfold rdI
  dsimp only
  rw [toldInt_here pre rest n.toNat (by omega) low high above (by omega) (by omega), List.length_append]
  dsimp only
  rw [Int.toNat_of_nonneg h0]
theorem rdT_here (pre rest L : List UInt8) (high : Int) (h : (L.length : Int) ≤ high) (h3 : high < 9223372036854775808) :
    rdT (pre ++ (txtE L ++ rest)) high ⟨pre.length, 0, 0⟩ = (L, ⟨pre.length + (txtE L).length, 0, 0⟩) := by
  unfold rdT txtE
  dsimp only
  rw [List.append_assoc, toldTxt_here pre rest L (by omega) high h, List.length_append]
theorem rdSp_here (pre rest : List UInt8) (s : Sp) (h : s.lo.length ≤ 64) (h' : s.hi.length ≤ 64) :
    rdSp (pre ++ (spE s ++ rest)) ⟨pre.length, 0, 0⟩ = (s, ⟨pre.length + (spE s).length, 0, 0⟩) := by
  have e1 : pre ++ (spE s ++ rest) = pre ++ (txtE s.lo ++ (txtE s.hi ++ rest)) := by unfold spE; simp only [List.append_assoc]
  have e2 : pre ++ (spE s ++ rest) = (pre ++ txtE s.lo) ++ (txtE s.hi ++ rest) := by unfold spE; simp only [List.append_assoc]
  have h1 := rdT_here pre (txtE s.hi ++ rest) s.lo 64 (by omega) (by omega)
  have h2 := rdT_here (pre ++ txtE s.lo) rest s.hi 64 (by omega) (by omega)
  rw [← e1] at h1
  rw [← e2, List.length_append] at h2
  unfold rdSp
  rw [h1]
  dsimp only
  rw [h2]
  unfold spE
  rw [List.length_append, Nat.add_assoc]
theorem rdW_here (pre rest : List UInt8) (w : Wt) (h : mayW w = true) :
    rdW (pre ++ (wtE w ++ rest)) ⟨pre.length, 0, 0⟩ = (w, ⟨pre.length + (wtE w).length, 0, 0⟩) := by
  obtain ⟨k, v, d⟩ := w
  unfold mayW keyB at h
  simp only [Bool.and_eq_true, decide_eq_true_eq, Bool.or_eq_true, Bool.not_eq_true'] at h
  obtain ⟨⟨⟨hk1, hk2⟩, hv⟩, hd⟩ := h
  cases d with
  | true =>
    have hv2 : v = [] := hd.resolve_left (by simp)
    subst hv2
    have e1 : pre ++ (wtE ⟨k, [], true⟩ ++ rest) = pre ++ (txtE k ++ (sev 1 ++ rest)) := by unfold wtE; simp [List.append_assoc]
    have e2 : pre ++ (wtE ⟨k, [], true⟩ ++ rest) = (pre ++ txtE k) ++ (sev (1 : Int).toNat ++ rest) := by unfold wtE; simp [List.append_assoc]
    have h1 := rdT_here pre (sev 1 ++ rest) k 32 (by omega) (by omega)
    have h2 := rdI_here (pre ++ txtE k) rest 1 0 1 5 (by omega) (by omega) (by omega) (by omega)
    rw [← e1] at h1
    rw [← e2] at h2
    simp only [List.length_append] at h2
    unfold rdW
    rw [h1]
    dsimp only
    rw [h2]
    simp [wtE, List.length_append, Nat.add_assoc]
  | false =>
    have e1 : pre ++ (wtE ⟨k, v, false⟩ ++ rest) = pre ++ (txtE k ++ (sev 0 ++ (txtE v ++ rest))) := by unfold wtE; simp [List.append_assoc]
    have e2 : pre ++ (wtE ⟨k, v, false⟩ ++ rest) = (pre ++ txtE k) ++ (sev (0 : Int).toNat ++ (txtE v ++ rest)) := by unfold wtE; simp [List.append_assoc]
    have e3 : pre ++ (wtE ⟨k, v, false⟩ ++ rest) = (pre ++ txtE k ++ sev 0) ++ (txtE v ++ rest) := by unfold wtE; simp [List.append_assoc]
    have h1 := rdT_here pre (sev 0 ++ (txtE v ++ rest)) k 32 (by omega) (by omega)
    have h2 := rdI_here (pre ++ txtE k) (txtE v ++ rest) 0 0 1 5 (by omega) (by omega) (by omega) (by omega)
    have h3 := rdT_here (pre ++ txtE k ++ sev 0) rest v 64 (by omega) (by omega)
    rw [← e1] at h1
    rw [← e2] at h2
    simp only [List.length_append] at h2
    rw [← e3] at h3
    unfold rdW
    rw [h1]
    dsimp only
    rw [h2]
    simp only [Int.toNat_zero, List.length_append] at h3 ⊢
    rw [if_neg (by omega), Nat.add_assoc] at *
    simp only [← Nat.add_assoc] at h3 ⊢
    rw [h3]
    simp [wtE, List.length_append, Nat.add_assoc]
theorem checkX_ok {x : Ef} (h : checkX x = 0) : x.rs.length + x.ss.length + x.ws.length ≤ 60 ∧ fineX x = true := by
  unfold checkX at h
  split at h
  · cases h
  · rename_i h1
    split at h
    · rename_i h2; exact ⟨by omega, h2⟩
    · cases h
theorem readE_here {x : Ef} (h : checkX x = 0) : readE (bytesX x) = (x, 0, 0) := by
  obtain ⟨hn, hf⟩ := checkX_ok h
  have hf' := hf
  unfold fineX at hf'
  simp only [Bool.and_eq_true, decide_eq_true_eq] at hf'
  obtain ⟨⟨hw1, hw2⟩, ⟨hs1, hs2⟩, _, _, hsp, hks, hws, _⟩ := hf'
  have hsp2 : ∀ s ∈ x.ss, s.lo.length ≤ 64 ∧ s.hi.length ≤ 64 := fun s hs => by
    unfold spansB at hsp
    rw [Bool.and_eq_true] at hsp
    simpa using List.all_eq_true.1 hsp.2 s hs
  generalize hbs : bytesX x = bs
  have E := hbs
  unfold bytesX at E
  have a1 : stWhy bs = (x.why, ⟨(sev x.why.toNat).length, 0, 0⟩) := by
    have := rdI_here [] (sev x.steps.toNat ++ (sev x.rs.length ++ (x.rs.flatMap txtE ++ (sev x.ss.length ++ (x.ss.flatMap spE ++ (sev x.ws.length ++ x.ws.flatMap wtE)))))) x.why 0 3 5 hw1 hw1 hw2 (by omega)
    simp only [List.nil_append] at this
    rw [E] at this
    exact this
  generalize hp1 : sev x.why.toNat = p1 at *
  have a2 : stSteps bs = (x.steps, ⟨(p1 ++ sev x.steps.toNat).length, 0, 0⟩) := by
    have := rdI_here p1 (sev x.rs.length ++ (x.rs.flatMap txtE ++ (sev x.ss.length ++ (x.ss.flatMap spE ++ (sev x.ws.length ++ x.ws.flatMap wtE))))) x.steps 0 200 5 hs1 hs1 hs2 (by omega)
    rw [E] at this
    unfold stSteps
    rw [a1]
    exact this
  rw [← List.append_assoc] at E
  generalize hp2 : p1 ++ sev x.steps.toNat = p2 at *
  have a3 : ctR bs = ((x.rs.length : Int), ⟨(p2 ++ sev x.rs.length).length, 0, 0⟩) := by
    have := rdI_here p2 (x.rs.flatMap txtE ++ (sev x.ss.length ++ (x.ss.flatMap spE ++ (sev x.ws.length ++ x.ws.flatMap wtE)))) (x.rs.length : Int) 0 60 3 (by omega) (by omega) (by omega) (by omega)
    rw [Int.toNat_natCast, E] at this
    unfold ctR
    rw [a2]
    exact this
  rw [← List.append_assoc] at E
  generalize hp3 : p2 ++ sev x.rs.length = p3 at *
  have a4 : lsR bs = (x.rs, ⟨(p3 ++ x.rs.flatMap txtE).length, 0, 0⟩) := by
    have := rAcc_here (one := fun bs => rdT bs 32) (enc := txtE) x.rs (fun y hy pre rest => rdT_here pre rest y 32 (by
      have := List.all_eq_true.1 hks y hy
      unfold keyB at this
      simp at this
      omega) (by omega)) p3 (sev x.ss.length ++ (x.ss.flatMap spE ++ (sev x.ws.length ++ x.ws.flatMap wtE))) x.rs.length (Nat.le_refl _)
    rw [E, List.take_length, ← List.length_append] at this
    unfold lsR
    rw [a3]
    dsimp only
    rw [Int.toNat_natCast]
    exact this
  rw [← List.append_assoc] at E
  generalize hp4 : p3 ++ x.rs.flatMap txtE = p4 at *
  have a5 : ctS bs = ((x.ss.length : Int), ⟨(p4 ++ sev x.ss.length).length, 0, 0⟩) := by
    have := rdI_here p4 (x.ss.flatMap spE ++ (sev x.ws.length ++ x.ws.flatMap wtE)) (x.ss.length : Int) 0 60 3 (by omega) (by omega) (by omega) (by omega)
    rw [Int.toNat_natCast, E] at this
    unfold ctS
    rw [a4]
    exact this
  rw [← List.append_assoc] at E
  generalize hp5 : p4 ++ sev x.ss.length = p5 at *
  have a6 : lsS bs = (x.ss, ⟨(p5 ++ x.ss.flatMap spE).length, 0, 0⟩) := by
    have := rAcc_here (one := rdSp) (enc := spE) x.ss (fun y hy pre rest => rdSp_here pre rest y (hsp2 y hy).1 (hsp2 y hy).2) p5 (sev x.ws.length ++ x.ws.flatMap wtE) x.ss.length (Nat.le_refl _)
    rw [E, List.take_length, ← List.length_append] at this
    unfold lsS
    rw [a5]
    dsimp only
    rw [Int.toNat_natCast]
    exact this
  rw [← List.append_assoc] at E
  generalize hp6 : p5 ++ x.ss.flatMap spE = p6 at *
  have a7 : ctW bs = ((x.ws.length : Int), ⟨(p6 ++ sev x.ws.length).length, 0, 0⟩) := by
    have := rdI_here p6 (x.ws.flatMap wtE) (x.ws.length : Int) 0 60 3 (by omega) (by omega) (by omega) (by omega)
    rw [Int.toNat_natCast, E] at this
    unfold ctW
    rw [a6]
    exact this
  rw [← List.append_assoc] at E
  generalize hp7 : p6 ++ sev x.ws.length = p7 at *
  have a8 : lsW bs = (x.ws, ⟨(p7 ++ x.ws.flatMap wtE).length, 0, 0⟩) := by
    have := rAcc_here (one := rdW) (enc := wtE) x.ws (fun y hy pre rest => rdW_here pre rest y (List.all_eq_true.1 hws y hy)) p7 [] x.ws.length (Nat.le_refl _)
    rw [List.append_nil, E, List.take_length, ← List.length_append] at this
    unfold lsW
    rw [a7]
    dsimp only
    rw [Int.toNat_natCast]
    exact this
  have hr : rawE bs = x := by unfold rawE; rw [a1, a2, a4, a6, a8]
  unfold readE
  rw [hr, a8]
  dsimp only
  unfold endF
  rw [E]
  simp [h]
end Go.Proofs.YtodbmeklbamcfaaGreat

/- What is read as an effect was written so. No program in sight. -/
namespace Go.Proofs.YtodbmeklbamcfaaGreat

theorem rdI_back (bs : List UInt8) (low high above : Int) (ha : above ≠ 0) (s : RS) (hp : s.pl ≤ bs.length) (h0 : s.fe = 0) (h1 : s.fa = 0) (h : (rdI bs low high above s).2.fe = 0) :
    bs.take (rdI bs low high above s).2.pl = bs.take s.pl ++ sev (rdI bs low high above s).1.toNat ∧ (rdI bs low high above s).2.pl ≤ bs.length ∧ (rdI bs low high above s).2.fa = 0 ∧ 0 ≤ (rdI bs low high above s).1 ∧ low ≤ (rdI bs low high above s).1 ∧ (rdI bs low high above s).1 ≤ high := by
  obtain ⟨pl, fe, fa⟩ := s
  dsimp only at hp h0 h1
  subst h0 h1
  unfold rdI toldInt at h ⊢
  dsimp only at h ⊢
  rw [if_pos rfl] at h ⊢
  cases hn : numAt bs pl low high above with
  | bad e a => rw [hn] at h; exact absurd h (numAt_bad _ _ _ _ _ _ _ ha hn)
  | ok n k =>
    obtain ⟨h1, h2, _, h4, h5⟩ := numAt_back bs pl low high above n k hp hn
    dsimp only
    rw [Int.toNat_natCast]
    exact ⟨h1, h2, rfl, by omega, h4, h5⟩
theorem rdT_back (bs : List UInt8) (high : Int) (s : RS) (hp : s.pl ≤ bs.length) (h0 : s.fe = 0) (h1 : s.fa = 0) (h : (rdT bs high s).2.fe = 0) :
    bs.take (rdT bs high s).2.pl = bs.take s.pl ++ txtE (rdT bs high s).1 ∧ (rdT bs high s).2.pl ≤ bs.length ∧ (rdT bs high s).2.fa = 0 := by
  obtain ⟨pl, fe, fa⟩ := s
  dsimp only at hp h0 h1
  subst h0 h1
  unfold rdT at h ⊢
  dsimp only at h ⊢
  obtain ⟨e1, e2, _⟩ := txt_back bs pl high hp h
  refine ⟨?_, e2, ?_⟩
  · unfold txtE
    rw [← e1, List.append_assoc]
  · unfold toldTxt at h ⊢
    rw [if_pos rfl] at h ⊢
    cases hn : txtAt bs pl high with
    | bad e a => rw [hn] at h; exact absurd h (txtAt_bad _ _ _ _ _ hn)
    | ok L k => rfl
theorem fe_of {α : Type} {one : RS → α × RS} (hs : ∀ s, s.fe ≠ 0 → (one s).2 = s) {s : RS} (h : (one s).2.fe = 0) : s.fe = 0 := by
  by_cases e : s.fe = 0
  · exact e
  · rw [hs s e] at h; exact absurd h e
theorem rdSp_back (bs : List UInt8) (s : RS) (hp : s.pl ≤ bs.length) (h0 : s.fe = 0) (h1 : s.fa = 0) (h : (rdSp bs s).2.fe = 0) :
    bs.take (rdSp bs s).2.pl = bs.take s.pl ++ spE (rdSp bs s).1 ∧ (rdSp bs s).2.pl ≤ bs.length ∧ (rdSp bs s).2.fa = 0 := by
  have h' : (rdT bs 64 (rdT bs 64 s).2).2.fe = 0 := h
  have f1 := fe_of (rdT_stuck bs 64) h'
  obtain ⟨a1, a2, a3⟩ := rdT_back bs 64 s hp h0 h1 f1
  obtain ⟨b1, b2, b3⟩ := rdT_back bs 64 (rdT bs 64 s).2 a2 f1 a3 h'
  refine ⟨?_, b2, b3⟩
  show bs.take (rdT bs 64 (rdT bs 64 s).2).2.pl = _
  rw [b1, a1, List.append_assoc]
  rfl
theorem rdW_back (bs : List UInt8) (s : RS) (hp : s.pl ≤ bs.length) (h0 : s.fe = 0) (h1 : s.fa = 0) (h : (rdW bs s).2.fe = 0) :
    bs.take (rdW bs s).2.pl = bs.take s.pl ++ wtE (rdW bs s).1 ∧ (rdW bs s).2.pl ≤ bs.length ∧ (rdW bs s).2.fa = 0 := by
  unfold rdW at h ⊢
  by_cases hd : (rdI bs 0 1 5 (rdT bs 32 s).2).1 = 1
  · rw [if_pos hd] at h ⊢
    have f2 : (rdI bs 0 1 5 (rdT bs 32 s).2).2.fe = 0 := h
    have f1 := fe_of (rdI_stuck bs 0 1 5) f2
    obtain ⟨a1, a2, a3⟩ := rdT_back bs 32 s hp h0 h1 f1
    obtain ⟨b1, b2, b3, _⟩ := rdI_back bs 0 1 5 (by decide) (rdT bs 32 s).2 a2 f1 a3 f2
    refine ⟨?_, b2, b3⟩
    dsimp only
    rw [b1, a1, hd]
    unfold wtE
    rw [if_pos rfl, List.append_assoc]
    rfl
  · rw [if_neg hd] at h ⊢
    have f3 : (rdT bs 64 (rdI bs 0 1 5 (rdT bs 32 s).2).2).2.fe = 0 := h
    have f2 := fe_of (rdT_stuck bs 64) f3
    have f1 := fe_of (rdI_stuck bs 0 1 5) f2
    obtain ⟨a1, a2, a3⟩ := rdT_back bs 32 s hp h0 h1 f1
    obtain ⟨b1, b2, b3, b4, _, b6⟩ := rdI_back bs 0 1 5 (by decide) (rdT bs 32 s).2 a2 f1 a3 f2
    obtain ⟨c1, c2, c3⟩ := rdT_back bs 64 (rdI bs 0 1 5 (rdT bs 32 s).2).2 b2 f2 b3 f3
    have hd0 : (rdI bs 0 1 5 (rdT bs 32 s).2).1 = 0 := by omega
    refine ⟨?_, c2, c3⟩
    dsimp only
    rw [c1, b1, a1, hd0]
    unfold wtE
    rw [if_neg (by simp)]
    simp only [List.append_assoc, Int.toNat_zero]
theorem readE_back {bs : List UInt8} {x : Ef} (h : readE bs = (x, 0, 0)) : (checkX x = 0 ∧ bytesX x = bs) := by
  unfold readE at h
  split at h
  · rename_i h1
    exact absurd (congrArg (fun t => t.2.1) h) h1
  · rename_i h1
    split at h
    · have h5 : (2 : Int) = 0 := congrArg (fun t => t.2.1) h
      omega
    · rename_i h2
      have hx : rawE bs = x := congrArg Prod.fst h
      rw [hx] at h2
      refine ⟨by simpa using h2, ?_⟩
      have h3 : (lsW bs).2.fe = 0 ∧ bs.length ≤ (lsW bs).2.pl := by
        unfold endF at h1
        split at h1
        · simp at h1
        · rename_i h4
          have h5 : (lsW bs).2.fe = 0 := by simpa using h1
          exact ⟨h5, by omega⟩
      obtain ⟨f8, hend⟩ := h3
      have stuck : ∀ {α : Type} {one : RS → α × RS} (_ : ∀ s, s.fe ≠ 0 → (one s).2 = s) {s : RS} {n : Nat}, (rAcc one s n).2.fe = 0 → s.fe = 0 := fun {α one} hs {s n} hz => by
        by_cases e : s.fe = 0
        · exact e
        · have := rAcc_stuck (one := one) (s := s) (j := 0) e n
          rw [Nat.zero_add] at this
          rw [this] at hz
          exact absurd hz e
      have f7 : (ctW bs).2.fe = 0 := stuck (rdW_stuck bs) f8
      have f6 : (lsS bs).2.fe = 0 := fe_of (rdI_stuck bs 0 60 3) f7
      have f5 : (ctS bs).2.fe = 0 := stuck (rdSp_stuck bs) f6
      have f4 : (lsR bs).2.fe = 0 := fe_of (rdI_stuck bs 0 60 3) f5
      have f3 : (ctR bs).2.fe = 0 := stuck (rdT_stuck bs 32) f4
      have f2 : (stSteps bs).2.fe = 0 := fe_of (rdI_stuck bs 0 60 3) f3
      have f1 : (stWhy bs).2.fe = 0 := fe_of (rdI_stuck bs 0 200 5) f2
      obtain ⟨a1, a2, a3, _⟩ := rdI_back bs 0 3 5 (by decide) ⟨0, 0, 0⟩ (Nat.zero_le _) rfl rfl f1
      obtain ⟨b1, b2, b3, _⟩ := rdI_back bs 0 200 5 (by decide) (stWhy bs).2 a2 f1 a3 f2
      obtain ⟨c1, c2, c3, c4, _⟩ := rdI_back bs 0 60 3 (by decide) (stSteps bs).2 b2 f2 b3 f3
      obtain ⟨d1, d2, d3, d4⟩ := rAcc_back (enc := txtE) (rdT_back bs 32) (ctR bs).2 c2 c3 (ctR bs).1.toNat f4
      obtain ⟨e1, e2, e3, e4, _⟩ := rdI_back bs 0 60 3 (by decide) (lsR bs).2 d2 f4 d3 f5
      obtain ⟨g1, g2, g3, g4⟩ := rAcc_back (enc := spE) (rdSp_back bs) (ctS bs).2 e2 e3 (ctS bs).1.toNat f6
      obtain ⟨i1, i2, i3, i4, _⟩ := rdI_back bs 0 60 3 (by decide) (lsS bs).2 g2 f6 g3 f7
      obtain ⟨j1, j2, j3, j4⟩ := rAcc_back (enc := wtE) (rdW_back bs) (ctW bs).2 i2 i3 (ctW bs).1.toNat f8
      have hall : bs.take (lsW bs).2.pl = bs := List.take_of_length_le hend
      have k1 : bs.take (stWhy bs).2.pl = sev (stWhy bs).1.toNat := by
        have a0 : bs.take (stWhy bs).2.pl = bs.take 0 ++ sev (stWhy bs).1.toNat := a1
        rw [a0, List.take_zero, List.nil_append]
      have k2 : bs.take (stSteps bs).2.pl = bs.take (stWhy bs).2.pl ++ sev (stSteps bs).1.toNat := b1
      have k3 : bs.take (ctR bs).2.pl = bs.take (stSteps bs).2.pl ++ sev (lsR bs).1.length := by rw [show (lsR bs).1.length = (ctR bs).1.toNat from d4]; exact c1
      have k4 : bs.take (lsR bs).2.pl = bs.take (ctR bs).2.pl ++ (lsR bs).1.flatMap txtE := d1
      have k5 : bs.take (ctS bs).2.pl = bs.take (lsR bs).2.pl ++ sev (lsS bs).1.length := by rw [show (lsS bs).1.length = (ctS bs).1.toNat from g4]; exact e1
      have k6 : bs.take (lsS bs).2.pl = bs.take (ctS bs).2.pl ++ (lsS bs).1.flatMap spE := g1
      have k7 : bs.take (ctW bs).2.pl = bs.take (lsS bs).2.pl ++ sev (lsW bs).1.length := by rw [show (lsW bs).1.length = (ctW bs).1.toNat from j4]; exact i1
      have k8 : bs.take (lsW bs).2.pl = bs.take (ctW bs).2.pl ++ (lsW bs).1.flatMap wtE := j1
      rw [← hx]
      conv => rhs; rw [← hall, k8, k7, k6, k5, k4, k3, k2, k1]
      unfold bytesX rawE
      simp only [List.append_assoc]
end Go.Proofs.YtodbmeklbamcfaaGreat
