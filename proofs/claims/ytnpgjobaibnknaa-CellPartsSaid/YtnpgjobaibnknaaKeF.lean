/- What a key has: the program's answer, the document's. -/
import Derived.Test.YtnpgjobaibnknaaKeE
namespace Go.Proofs.Ytnpgjobaibnknaa
open Go.RowKit Go.Rt

def getE (l : List Pr) (k : Str) : Str × Bool := if checkS l = 0 then ((lookP l k).getD [], (lookP l k).isSome) else ([], false)
theorem get_bad {l : List Pr} (k : Str) (h : checkS l ≠ 0) : getE l k = ([], false) := by unfold getE; rw [if_neg h]
theorem get_none {l : List Pr} {k : Str} (h : lookP l k = none) : getE l k = ([], false) := by unfold getE; rw [h]; split <;> rfl
theorem get_some {l : List Pr} {k v : Str} (h : checkS l = 0) (hv : lookP l k = some v) : getE l k = (v, true) := by unfold getE; rw [if_pos h, hv]; rfl
theorem look_at_some {l : List Pr} (hl : RiseP l) {k v : Str} (h : lookP l k = some v) : l[atP l k]? = some ⟨k, v⟩ := by
  rw [look_atP hl] at h
  cases hp : l[atP l k]? with
  | none => rw [hp] at h; cases h
  | some p =>
    rw [hp] at h
    simp only [Option.bind_some] at h
    split at h
    · rename_i e
      cases p
      simp at h e
      subst h e; rfl
    · cases h
theorem checkS_len {l : List Pr} (h : checkS l = 0) : l.length ≤ 65536 := ((checkS_ok l).1 h).1

set_option maxRecDepth 100000 in
set_option maxHeartbeats 4000000 in
theorem cGet_any {W w : World} {L : List SL} (A : Option Addr) (c : Nat) (l : List Pr) (k : Str) (hl : l.length ≤ maxLen) (hr : RdL W L A (prC l)) (H : Sat W w L) :
    Calls Try.prog 44 #[.slice A l.length c, .string ⟨k.toArray⟩] w fun e w' => e = .returned (.tuple #[.string ⟨(getE l k).1.toArray⟩, .bool (getE l k).2]) ∧ Sat W w' L := by
  have hck := cChk_any A c l hl hr H
  by_cases h0 : checkS l = 0
  · have hlen := checkS_len h0
    rw [h0] at hck
    have HCK := Lib.hid (hck)
    have HF := Lib.hid (fun w0 (h : Sat W w0 L) => cfind_any A c l k hlen hr (checkS_rise h0) h)
    cases hlk : lookP l k with
    | none =>
      rw [hlk] at HF
      rw [get_none hlk]
      clear hck h0 hlk
      go_enter Try.func44, Try.ntmps44
      go_wp2_with fail
      refine (HCK.out).mono ?_
      rintro e w2 ⟨rfl, H2⟩
      go_wp2_with fail
      refine (HF.out _ H2).mono ?_
      rintro e w3 ⟨rfl, H3⟩
      go_wp2
      go_ret2
      exact ⟨rfl, H3⟩
    | some v =>
      rw [hlk] at HF
      have hat := look_at_some (checkS_rise h0) hlk
      rw [get_some h0 hlk]
      generalize atP l k = at_ at *
      have hlt := (List.getElem?_eq_some_iff.1 hat).1
      have HRD := Lib.hid (fun w0 (h : Sat W w0 L) => pr_cells (hr _ h) at_ ⟨k, v⟩ hat)
      clear hck h0 hlk hat
      go_enter Try.func44, Try.ntmps44
      go_wp2_with fail
      refine (HCK.out).mono ?_
      rintro e w2 ⟨rfl, H2⟩
      go_wp2_with fail
      refine (HF.out _ H2).mono ?_
      rintro e w3 ⟨rfl, H3⟩
      obtain ⟨b, o, rfl, c0, c1, _⟩ := HRD.out _ H3

      go_wp2
      go_ret2
      exact ⟨rfl, H3⟩
  · rw [get_bad k h0]
    have e1 : (checkS l != 0) = true := by simpa using h0
    generalize checkS l = C at *
    have HCK := Lib.hid (hck)
    clear hck h0
    go_enter Try.func44, Try.ntmps44
    go_wp2_with fail
    refine (HCK.out).mono ?_
    rintro e w2 ⟨rfl, H2⟩
    go_wp2
    go_ret2
    exact ⟨rfl, H2⟩

set_option maxRecDepth 100000 in
set_option maxHeartbeats 4000000 in
theorem qGet_any {W w : World} {L : List SL} (A : Option Addr) (c : Nat) (l : List Pr) (k : Str) (hl : l.length ≤ maxLen) (hr : RdL W L A (prC l)) (H : Sat W w L) :
    Calls Try.prog 46 #[.slice A l.length c, .string ⟨k.toArray⟩] w fun e w' => e = .returned (.tuple #[.string ⟨(getE l k).1.toArray⟩, .bool (getE l k).2]) ∧ Sat W w' L := by
  have HAT := Lib.hid (qat_any A c l k hl hr H)
  have hck := fun w0 (h : Sat W w0 L) => qChk_any A c l hl hr h
  have hle := atP_le l k
  by_cases h0 : checkS l = 0
  · have hrise := checkS_rise h0
    have hla := look_atP hrise k
    rw [h0] at hck
    have HCK := Lib.hid (hck)
    by_cases h1 : atP l k = l.length
    · rw [get_none (show lookP l k = none by rw [hla, List.getElem?_eq_none (by omega)]; rfl)]
      rw [h1] at HAT
      clear hck h0 hla h1 hle hrise
      go_enter Try.func46, Try.ntmps46
      go_wp2_with fail
      refine (HAT.out).mono ?_
      rintro e w2 ⟨rfl, H2⟩
      go_wp2_with fail
      refine (HCK.out _ H2).mono ?_
      rintro e w3 ⟨rfl, H3⟩
      go_wp2
      go_ret2
      exact ⟨rfl, H3⟩
    · have h2 : ((atP l k : Int) == (l.length : Int)) = false := beq_eq_false_iff_ne.2 (by omega)
      obtain ⟨p, hp⟩ : ∃ p, l[atP l k]? = some p := ⟨_, List.getElem?_eq_getElem (by omega)⟩
      have hlt : atP l k < l.length := by omega
      rw [hp] at hla
      simp only [Option.bind_some] at hla
      have h9 : getE l k = if p.k = k then (p.v, true) else ([], false) := by
        split at hla
        · rename_i e; rw [if_pos e]; exact get_some h0 hla
        · rename_i e; rw [if_neg e]; exact get_none hla
      rw [h9]
      generalize atP l k = at_ at *
      have HRD := Lib.hid (fun w0 (h : Sat W w0 L) => pr_cells (hr _ h) at_ p hp)
      clear hck h0 hla hp h1 hle hrise h9
      obtain ⟨pk, pv⟩ := p
      dsimp only at HRD ⊢
      by_cases h3 : pk = k
      · have h4 : (pk == k) = true := beq_yes h3
        rw [if_pos h3]
        clear h3
        go_enter Try.func46, Try.ntmps46
        go_wp2_with fail
        refine (HAT.out).mono ?_
        rintro e w2 ⟨rfl, H2⟩
        go_wp2_with fail
        refine (HCK.out _ H2).mono ?_
        rintro e w3 ⟨rfl, H3⟩
        obtain ⟨b, o, rfl, c0, c1, _⟩ := HRD.out _ H3
        go_wp2
        go_ret2
        exact ⟨rfl, H3⟩
      · have h4 : (pk == k) = false := beq_no h3
        rw [if_neg h3]
        clear h3
        go_enter Try.func46, Try.ntmps46
        go_wp2_with fail
        refine (HAT.out).mono ?_
        rintro e w2 ⟨rfl, H2⟩
        go_wp2_with fail
        refine (HCK.out _ H2).mono ?_
        rintro e w3 ⟨rfl, H3⟩
        obtain ⟨b, o, rfl, c0, c1, _⟩ := HRD.out _ H3
        go_wp2
        go_ret2
        exact ⟨rfl, H3⟩
  · rw [get_bad k h0]
    have e1 : (checkS l != 0) = true := by simpa using h0
    generalize checkS l = C at *
    have HCK := Lib.hid (hck)
    clear hck h0
    go_enter Try.func46, Try.ntmps46
    go_wp2_with fail
    refine (HAT.out).mono ?_
    rintro e w2 ⟨rfl, H2⟩
    go_wp2_with fail
    refine (HCK.out _ H2).mono ?_
    rintro e w3 ⟨rfl, H3⟩
    go_wp2
    go_ret2
    exact ⟨rfl, H3⟩
end Go.Proofs.Ytnpgjobaibnknaa
