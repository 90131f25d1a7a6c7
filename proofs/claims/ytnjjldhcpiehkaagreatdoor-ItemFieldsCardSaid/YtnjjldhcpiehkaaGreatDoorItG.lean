/- The walk of ItemEntries on plain values. Printed by tools/mkitg.py. -/
import Derived.Test.YtnjjldhcpiehkaaGreatDoorItF
namespace Go.Proofs.YtnjjldhcpiehkaaGreatDoor.Pe
set_option linter.unusedSectionVars false
set_option linter.unusedVariables false
set_option linter.unusedSimpArgs false
open Go Go.RowKit Co Sg Ac It
set_option maxRecDepth 100000
set_option maxHeartbeats 4000000
/-- what is read as a number is written as it stood -/
theorem rdN_inv : ∀ (l : By) (i n m : Nat) (r : By), rdN l i n = some (m, r) → ∃ k, m = n + k * 2 ^ (7 * i) ∧ l = num k ++ r ∧ (0 < i → 0 < k)
  | [], _, _, _, _, h => by cases h
  | d :: l, i, n, m, r, h => by
    unfold rdN at h
    have hd : d.toNat < 256 := d.toNat_lt
    split at h
    · cases h
    have hp : 2 ^ (7 * (i + 1)) = 128 * 2 ^ (7 * i) := by rw [show 7 * (i + 1) = 7 + 7 * i from by omega, Nat.pow_add]
    split at h
    · rename_i h128
      obtain ⟨k, h1, h2, h3⟩ := rdN_inv l (i + 1) _ m r h
      have hk := h3 (by omega)
      refine ⟨(d.toNat - 128) + 128 * k, ?_, ?_, fun _ => by omega⟩
      · rw [h1, hp, Nat.add_mul, Nat.add_assoc]
        congr 2
        rw [Nat.mul_comm 128 k, Nat.mul_assoc]
      · rw [num_big (by omega), show 128 + ((d.toNat - 128) + 128 * k) % 128 = d.toNat from by omega, show ((d.toNat - 128) + 128 * k) / 128 = k from by omega, UInt8.ofNat_toNat, h2]
        rfl
    · rename_i h128
      split at h
      · cases h
      · rename_i hz
        cases h
        refine ⟨d.toNat, rfl, ?_, fun h0 => by omega⟩
        rw [num_small (by omega), UInt8.ofNat_toNat]
        rfl
theorem readEntry_right {s : By} (h : (readEntry s).2 = true) : It.right (readEntry s).1.item = true ∧ entryB (readEntry s).1 = s := by
  unfold readEntry at h ⊢
  simp only at h ⊢
  split at h
  · rename_i hc
    rw [if_pos hc]
    obtain ⟨h1, h2⟩ := hc
    obtain ⟨r1, r2⟩ := It.read_right h1
    refine ⟨r1, ?_⟩
    unfold entryB
    rw [if_pos (by simp only [h2, r1]; rfl)]
    simp only [r2]
    have hnum : rNum ⟨s, false⟩ = (((R.num ⟨s, false⟩).1 : Int), (R.num ⟨s, false⟩).2) := rfl
    cases hr : rdN s 0 0 with
    | none =>
      exfalso
      have hf : R.num ⟨s, false⟩ = (0, fail) := by unfold R.num; simp only [hr]
      rw [hnum, hf] at h1
      have : (R.take fail fail.rest.length).1 = [] := rfl
      simp only at h1
      rw [this, It.read_nil] at h1
      cases h1
    | some p =>
      obtain ⟨m, r⟩ := p
      have hf : R.num ⟨s, false⟩ = (m, ⟨r, false⟩) := by unfold R.num; simp only [hr]
      obtain ⟨k, e1, e2, _⟩ := rdN_inv s 0 0 m r hr
      rw [hnum, hf]
      simp only
      rw [take_all _ rfl, numI_nat, e2]
      have : m = k := by rw [e1]; simp
      rw [this]
  · cases h
theorem entry_more {e : It.Entry} (h1 : It.isTime e.time = true) (h2 : It.right e.item = true) : (readEntry (entryB e ++ [120])).2 = false := by
  have ht : 0 ≤ e.time ∧ e.time ≤ 1099511627776 := wi_iff.1 h1
  have hb : entryB e = numI e.time ++ It.bytes e.item := by unfold entryB; rw [h1, h2]; rfl
  rw [hb]
  unfold readEntry
  rw [List.append_assoc, rNum_back _ _ (by omega) (by omega)]
  simp only
  rw [take_all _ rfl]
  have := It.read_more h2 (r := [120]) (by simp)
  rw [if_neg]
  intro h
  rw [this] at h
  cases h.1
theorem readEntry_x : (readEntry [120]).2 = false := by decide +kernel
theorem itemEntries_c (a : It.Item) (t : Int) (s : By) (ha : InI a) (ht : -9223372036854775808 ≤ t ∧ t ≤ 9223372036854775807) (hs : s.length ≤ 140737488351232) : AC Tryz.prog 6 [itemV a, .it .i64 t, .st s] [] (.bo true) [] := by
  refine AC.enter [8, 9, 22, 11, 10, 14, 24, 23] [] Tryz.func6 rfl (by decide) (by decide) (Nat.le_of_ble_eq_true rfl) (by kernel_rfl) ?_; simp only [eraseC, eraseO, List.map_cons, List.map_nil, List.map_toArray, List.getElem?_toArray, List.getElem?_cons_zero, List.getElem?_cons_succ, Option.bind_some, Option.bind_none, List.append_eq, List.cons_append, List.nil_append]
  refine run ?_
  refine cp small13_c ?_
  refine run ?_
  refine cp (few13_c a) ?_
  by_cases hf : fewI a = true
  rotate_left
  · have hf : fewI a = false := by simpa using hf
    rw [hf]
    refine run ?_
    exact er0
  rw [hf]
  by_cases hl : s.length ≤ 9000
  rotate_left
  · refine run ?_
    exact er0
  have kr := readEntry_c s (by omega)
  have hd : (readEntry s).2 = true → It.right (readEntry s).1.item = true ∧ entryB (readEntry s).1 = s := readEntry_right
  generalize readEntry s = q at *
  obtain ⟨d, is⟩ := q
  simp only at kr hd
  have ks := sameI_c a a ha.iz.lz ha.iz.lz
  rw [decide_eq_true (p := a = a) rfl] at ks
  have kra := rightI_c a ha.iz
  have ke := entryBytes_c ⟨t, a⟩ ha.iz
  by_cases hrt : It.isTime t = true ∧ It.right a = true
  rotate_left
  · have he : entryB ⟨t, a⟩ = [] := by
      unfold entryB
      rw [if_neg]
      intro h
      rw [Bool.and_eq_true] at h
      exact hrt h
    rw [he] at ke
    have kn := readEntry_c [] (by decide)
    rw [readEntry_nil] at kn
    have kx := readEntry_c [120] (by decide)
    rw [readEntry_x] at kx
    generalize (readEntry [120]).1 = y2 at *
    refine run ?_
    refine cp ke ?_
    refine run ?_
    refine cp kra ?_
    cases hra : It.right a with
    | false =>
      refine run ?_
      refine cp kn ?_
      refine run ?_
      refine cp kr ?_
      refine run ?_
      refine cp kx ?_
      cases is with
      | false =>
        refine run ?_
        exact er0
      | true =>
        obtain ⟨r1, r2⟩ := hd rfl
        have k2 := entryBytes_c d (iz_right r1)
        rw [r2] at k2
        refine run ?_
        refine cp k2 ?_
        refine run ?_
        exact er0
    | true =>
      have htf : ¬ (0 ≤ t ∧ t ≤ 1099511627776) := fun h => hrt ⟨wi_iff.2 h, hra⟩
      by_cases h0 : 0 ≤ t
      · have h1 : ¬ t ≤ 1099511627776 := fun h => htf ⟨h0, h⟩
        refine runf (And.intro @h0 @h1) ?_
        refine cp kn ?_
        refine run ?_
        refine cp kr ?_
        refine run ?_
        refine cp kx ?_
        cases is with
        | false =>
          refine run ?_
          exact er0
        | true =>
          obtain ⟨r1, r2⟩ := hd rfl
          have k2 := entryBytes_c d (iz_right r1)
          rw [r2] at k2
          refine run ?_
          refine cp k2 ?_
          refine run ?_
          exact er0
      · refine runf @h0 ?_
        refine cp kn ?_
        refine run ?_
        refine cp kr ?_
        refine run ?_
        refine cp kx ?_
        cases is with
        | false =>
          refine run ?_
          exact er0
        | true =>
          obtain ⟨r1, r2⟩ := hd rfl
          have k2 := entryBytes_c d (iz_right r1)
          rw [r2] at k2
          refine run ?_
          refine cp k2 ?_
          refine run ?_
          exact er0
  obtain ⟨htm, hra⟩ := hrt
  have hti : 0 ≤ t ∧ t ≤ 1099511627776 := wi_iff.1 htm
  have h0 := hti.1
  have h1 := hti.2
  rw [hra] at kra
  have hb : entryB ⟨t, a⟩ = numI t ++ It.bytes a := by unfold entryB; simp only [htm, hra]; rfl
  have kb := bytesI_c a ha.iz
  have knum := num_c t (by omega) (by omega)
  have ln := numI_le t (by omega)
  have lb := bytesIt_len6 a
  have hne : numI t ++ It.bytes a ≠ [] := fun e => It.bytes_ne hra (List.append_eq_nil_iff.1 e).2
  have q1 := readEntry_c (entryB ⟨t, a⟩) (by rw [hb, List.length_append]; omega)
  rw [readEntry_back htm hra] at q1
  have q2 := readEntry_c (entryB ⟨t, a⟩ ++ [120]) (by rw [hb, List.length_append, List.length_append, List.length_singleton]; omega)
  rw [entry_more htm hra] at q2
  generalize (readEntry (entryB ⟨t, a⟩ ++ [120])).1 = y2 at *
  rw [hb] at ke q1 q2
  have hxn := nilI _ _ hne
  have hxl : (numI t ++ It.bytes a).length ≤ 200009 := by rw [List.length_append]; omega
  obtain ⟨x, hx⟩ : ∃ x, numI t ++ It.bytes a = x := ⟨_, rfl⟩
  rw [hx] at ke q1 q2 hxn hxl
  clear hne hb
  refine run ?_
  refine cp ke ?_
  refine run ?_
  refine cp kra ?_
  refine runf (And.intro @h0 (And.intro @h1 @hxn)) ?_
  refine cp knum ?_
  refine run ?_
  refine cp kb ?_
  refine runf @hx ?_
  refine cp q1 ?_
  refine run ?_
  refine cp ks ?_
  refine run ?_
  refine cp kr ?_
  refine run ?_
  refine cp q2 ?_
  cases is with
  | false =>
    refine run ?_
    exact er0
  | true =>
    obtain ⟨r1, r2⟩ := hd rfl
    have k2 := entryBytes_c d (iz_right r1)
    rw [r2] at k2
    refine run ?_
    refine cp k2 ?_
    refine run ?_
    exact er0
end Go.Proofs.YtnjjldhcpiehkaaGreatDoor.Pe
