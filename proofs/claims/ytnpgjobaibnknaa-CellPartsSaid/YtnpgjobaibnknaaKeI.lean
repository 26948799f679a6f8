/- The program's table told as a state. -/
import Derived.Test.YtnpgjobaibnknaaKeH
namespace Go.Proofs.Ytnpgjobaibnknaa
open Go.RowKit Go.Rt Go.Maps Go.Shelf

theorem mapof_perm {w : World} {R : Value → Option (DataW Unit × List MemPlace)} {b n : Nat} {D : DataW Unit} {f : Str → Option (DataW Unit)} (hown : w.ownsMap Try.prog 9 R b n D) (h : MapOf D f) {ks : List Str} (hr : Rise ks) (hm : ∀ x, x ∈ ks ↔ (f x).isSome = true) : ks.Perm (strKeys D) := by
  obtain ⟨es, hD, hpw⟩ := h.tidy
  obtain ⟨es', hD', hko⟩ := hown.keysOf
  obtain rfl : es = es' := by rw [hD] at hD'; simpa using hD'
  have h1 := h.has
  rw [hD] at h1 ⊢
  refine perm_strKeys hpw (fun p hp => by obtain ⟨v, hv⟩ := hko p hp; obtain ⟨x, _, hx, _⟩ := Maps.keyOf_str Try.underlying9 hv; exact ⟨x, hx⟩) (List.Pairwise.imp (fun {x y} (h : x < y) (e : x = y) => str_irrefl y (by rw [e] at h; exact h)) hr) fun x => ?_
  rw [h1, hm]
theorem mapof_size {w : World} {R : Value → Option (DataW Unit × List MemPlace)} {b n : Nat} {D : DataW Unit} {f : Str → Option (DataW Unit)} (hown : w.ownsMap Try.prog 9 R b n D) (h : MapOf D f) {ks : List Str} (hr : Rise ks) (hm : ∀ x, x ∈ ks ↔ (f x).isSome = true) : Maps.size D = ks.length := by
  have h1 := (mapof_perm hown h hr hm).length_eq
  obtain ⟨es, hD, _⟩ := h.tidy
  rw [h1, hD]
  simp [Maps.size, strKeys]
theorem mapof_sorted {D : DataW Unit} {ks ss : List Str} (hr : Rise ks) (hp : ks.Perm (strKeys D)) (hs : ss.Perm (strKeys D)) : ss.mergeSort leB = ks := by
  have h1 := hs.trans hp.symm
  have h2 : ss.mergeSort leB = sortS ks := sorted_is (h1.nodup_iff.2 (List.Pairwise.imp (fun {x y} (h : x < y) (e : x = y) => str_irrefl y (by rw [e] at h; exact h)) hr)) fun x => h1.mem_iff
  rw [h2, sortS_self hr]
theorem keys_look {s : List Pr} (hs : RiseP s) (x : Str) : x ∈ s.map Pr.k ↔ (litO (lookP s x)).isSome = true := by
  unfold litO
  rw [Option.isSome_map, List.mem_map]
  constructor
  · rintro ⟨p, hp, rfl⟩; rw [mem_look hs hp]; rfl
  · intro h
    obtain ⟨v, hv⟩ := Option.isSome_iff_exists.1 h
    exact ⟨_, look_mem hv, rfl⟩

/-- slices.Sorted at the keys of a table. -/
theorem ctSorted_any {W w : World} {L : List SL} (b n : Nat) (D : DataW Unit) (s : List Pr) (hs : RiseP s) (hm : MapOf D fun x => litO (lookP s x)) (hl : s.length ≤ 1000000000) (H : Sat W w (tabS b n D :: L)) :
    Calls Try.prog 64 #[.func (.func 102) #[] #[.pointer (some ⟨w.heap.size, 0, none⟩)]] (w.alloc (.cells #[.map (some b)] 84)) fun e w' => ∃ A c, e = .returned (.slice A s.length c) ∧ Sat W w' (seenS 9 (.slice A s.length c) s.length (tsC (s.map Pr.k)) :: pt w.heap.size #[.map (some b)] 84 :: tabS b n D :: L) := by
  have hown := H.map_owns
  have hsz := mapof_size hown hm hs (keys_look hs)
  rw [List.length_map] at hsz
  have hperm := mapof_perm hown hm hs (keys_look hs)
  have H1 := H.alloc #[.map (some b)] 84
  have h := eSorted_any 102 #[.pointer (some ⟨w.heap.size, 0, none⟩)] (enters_of Try.func102 (by kernel_rfl) rfl) _ (Maps.size D) (by omega) (w.alloc (.cells #[.map (some b)] 84))
    ⟨_, AnyZ.keys_stops (ρ := Try.ren95) { Try.keys95 with } Fence.wide 2 trivial rfl (by omega) w.heap.size b n D (R := Rv) _ (by simp) (by simp) (by
      have hbl := hown.lt
      obtain ⟨es, clock, hb, Ft, hs, hD⟩ := hown
      exact ⟨es, clock, (Below.heap_alloc _ _ _ hbl).trans hb, Ft, hs, hD⟩)⟩
    (fun ss hS => by have h2 := (hS.1.trans hperm.symm).length_eq; rw [List.length_map] at h2; omega)
  refine h.mono ?_
  rintro e w' ⟨A, c, ss, rfl, hS, H2⟩
  have h1 := mapof_sorted hs hperm hS.1
  have h2 := (hS.1.trans hperm.symm).length_eq
  rw [List.length_map] at h2
  rw [h1, h2] at H2
  exact ⟨A, c, by rw [h2], H1.joined H2⟩

theorem val_field (v : ByteArray) (w : World) : (Instr.field 88 (.agg #[.string v]) 0).run Try.prog w = .ok (.string v) w := by kernel_rfl
set_option maxRecDepth 100000 in
set_option maxHeartbeats 4000000 in
theorem cstate_any {W w : World} {L : List SL} (b n : Nat) (D : DataW Unit) (s : List Pr) (hs : RiseP s) (hm : MapOf D fun x => litO (lookP s x)) (hk : ∀ p ∈ s, p.k.length ≤ maxLen) (hl : s.length ≤ 1000000000) (H : Sat W w (tabS b n D :: L)) :
    Calls Try.prog 76 #[.agg #[.map (some b)]] w fun e w' => ∃ A c, e = .returned (.slice A s.length c) ∧ Sat W w' (row 64 zPr (.slice A s.length c) s.length (prC s) :: L) := by
  obtain ⟨i0, hi, hz0, hz1, hz2⟩ := info_parts infoPr
  have H1 := (H.alloc #[.map (some b)] 86).swap
  have HS := Lib.hid (fun (w0 : World) (L0 : List SL) (h : Sat W w0 (tabS b n D :: L0)) => ctSorted_any b n D s hs hm hl h)
  have HLK := Lib.hid (fun (j : Nat) (p : Pr) (hp : s[j]? = some p) (z : DataW Unit) => hm.look p.k (.lit (.string p.v)) (by rw [mem_look hs (List.mem_of_getElem? hp)]; rfl) z)
  have HKL := Lib.hid (fun (j : Nat) (p : Pr) (hp : s[j]? = some p) => key_str p.k (hk p (List.mem_of_getElem? hp)))
  have hs1 := HS.out _ _ H1
  simp only [World.size_alloc] at hs1
  have HS1 := Lib.hid (hs1)
  clear hm hs hk hs1 HS
  go_enter Try.func76, Try.ntmps76
  go_wp2_with fail
  refine (callsIn_wide.1 (Try.keysA95 (some b) _)).mono ?_
  rintro e w2 ⟨rfl, rfl⟩
  go_wp2_with fail
  refine (HS1.out).mono ?_
  rintro e w3 ⟨A, c, rfl, H3⟩
  clear HS1 H1 H
  go_wp2
  go_loopw [3, 11] (fun ou i wc => ∃ (j : Nat) (Ao : Option Addr) (co : Nat), j ≤ s.length ∧ i = .int .i64 j ∧ ou = .slice Ao j co ∧ Sat W wc (row 64 zPr (.slice Ao j co) j (prC (s.take j)) :: seenS 9 (.slice A s.length c) s.length (tsC (s.map Pr.k)) :: pt (w.heap.size + 1) #[.map (some b)] 84 :: tabS b n D :: pt w.heap.size #[.map (some b)] 86 :: L)) (fun _ i _ => s.length - (intOf i).toNat)
  case atStart => exact ⟨0, none, 0, by omega, rfl, rfl, H3.nil _ _⟩
  case round =>
    clear H3
    obtain ⟨j, Ao, co, hj, rfl, rfl, H⟩ := hrel
    by_cases hlt : j < s.length
    · obtain ⟨p, hp⟩ : ∃ x, s[j]? = some x := ⟨_, List.getElem?_eq_getElem (by omega)⟩
      have hkj : (s.map Pr.k)[j]? = some p.k := by rw [List.getElem?_map, hp]; rfl
      obtain ⟨g, o, rfl, c0⟩ := ts_at H.tail.new_rd j p.k hkj
      have c1 : wr.cell? ⟨w.heap.size, 0, none⟩ = some (.map (some b)) := (H.pull 4).cell 0
      obtain ⟨v, ps, hrun, hv⟩ := ((H.pull 3).map_owns).lookup (string_keyed Try.underlying9) Try.underlying84 (Try.zeroValue88 _) (Rv_mk []) (HKL.out j p hp)
      rw [HLK.out j p hp] at hv
      obtain ⟨x, rfl, hx⟩ := Rv_inv hv
      obtain rfl : p.v = x := by simpa using hx
      have ht : s.take (j + 1) = s.take j ++ [p] := by rw [List.take_add_one, hp]; rfl
      have HT := Lib.hid (ht)
      obtain ⟨pk, pv⟩ := p
      dsimp only at c0 hrun
      have H5 := H.alloc #[.string ⟨pk.toArray⟩, .string ⟨pv.toArray⟩] 64
      have hfd := val_field ⟨pv.toArray⟩ wr
      clear hv hx hkj hp ht
      go_wp2_with (first
        | (at_builtin
           refine wpList_append_sl rfl (.tmp 15) (.tmp 23) 40 rfl 64 i0 _ zPr 32 Try.underlying40 hi hz0 rfl hz1 hz2 (by simp) zPr_like _ j _ rfl H5.swap (some ⟨wr.heap.size, 0, none⟩) 1 1 [.string ⟨pk.toArray⟩, .string ⟨pv.toArray⟩] rfl rfl (RdL.pt _ H5) (pr_one ⟨pk, pv⟩) (pr_typed ⟨pk, pv⟩) (by unfold maxLen; omega) (by omega) ?_
           intro A4 c4 w5 H6))
      refine ⟨⟨j + 1, A4, c4, by omega, by go_num, rfl, ?_⟩, by simp [intOf]; omega⟩
      rw [HT.out, prC_append]
      exact H6.swap.tail
    · obtain rfl : j = s.length := by omega
      rw [List.take_length] at H
      go_wp2
      go_ret
      exact ⟨Ao, co, rfl, H.swap.tail.swap.tail.swap.tail.swap.tail⟩
end Go.Proofs.Ytnpgjobaibnknaa
