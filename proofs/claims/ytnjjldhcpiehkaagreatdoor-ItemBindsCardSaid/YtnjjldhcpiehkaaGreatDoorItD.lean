/- The walk of package item on plain values: reading, digests, statements, entries. Printed by tools/mkitd.py. -/
import Derived.Test.YtnjjldhcpiehkaaGreatDoorItC
namespace Go.Proofs.YtnjjldhcpiehkaaGreatDoor.Pe
set_option linter.unusedSectionVars false
set_option linter.unusedVariables false
set_option linter.unusedSimpArgs false
open Go Go.RowKit Co Sg Ac It
set_option maxRecDepth 100000
set_option maxHeartbeats 4000000
theorem szI_of {a : Ac.Act} (h : Sm a) : Sz a := ⟨by have := h.author; omega, by have := h.target; omega, by have := h.group; omega, by have := h.text; omega, fun s hs => by have := h.to.2 s hs; omega, by have := h.to.1; omega, by have := h.wraps.1; omega⟩
theorem szI0 : Sz act0 := ⟨by decide, by decide, by decide, by decide, by decide, by decide, by decide⟩
theorem dz0 : Dz decision0 := ⟨by decide, by decide, by decide⟩
theorem nilI (s t : By) (h : s ≠ t) : (s == t) = false := by simpa using h
theorem iz_right {i : It.Item} (h : It.right i = true) : Iz i := by
  have p := right_parts h
  have c := (ezc p.2.1).1.1
  have b := (ezb p.2.2.1).1.1
  have d := ezd p.2.2.2
  refine ⟨?_, by omega, by omega, ⟨by have := d.1.1; omega, by have := d.2.1.1; omega, fun s hs => by have := d.2.1.2 s hs; omega⟩⟩
  rcases p.1 with e | e
  · exact szI_of (right_sm e)
  · rw [e]; exact szI0
theorem bytesIt_len (i : It.Item) : (It.bytes i).length ≤ 70000000 := by
  cases hr : It.right i with
  | false => rw [It.bytes_wrong hr]; decide
  | true =>
    have hk := right_kind hr
    have n0 := numI_le i.kind (by omega)
    rw [bytes_right hr]
    unfold bodyB
    rw [List.length_append]
    by_cases h0 : i.kind = 0
    · rw [if_pos h0]
      have := bytes_len (a := i.act)
      omega
    · rw [if_neg h0]
      have hs := sig_right hr h0
      simp only [sigR, Bool.and_eq_true, wi_iff] at hs
      have n1 := numI_le (sigOf i).e (by omega)
      have n2 := numI_le (sigOf i).s (by omega)
      have hc := coreOf_len (sh_right hr)
      simp only [List.length_append]
      omega

theorem rsig_s (x : R) (hx : x.rest.length ≤ 1000000) : ∃ (c : Sig) (y : R), rSig x = (c, y) ∧ y.rest.length ≤ 1000000 ∧ (0 ≤ c.e ∧ c.e < 9223372036854775808) ∧ AC Tryz.prog 119 [.ptr 0 0] [rd x] (sigV c) [rd y] := by
  obtain ⟨e, x1, e1, b1, d1, k1⟩ := rnum_s x hx
  obtain ⟨s, x2, e2, b2, d2, k2⟩ := rnum_s x1 b1
  refine ⟨⟨e, s⟩, x2, by unfold rSig; simp only [e1, e2], b2, d1, ?_⟩
  refine AC.enter [] [] Tryz.func119 rfl (by decide) (by decide) (Nat.le_of_ble_eq_true rfl) (by kernel_rfl) ?_; simp only [eraseC, eraseO, List.map_cons, List.map_nil, List.map_toArray, List.getElem?_toArray, List.getElem?_cons_zero, List.getElem?_cons_succ, Option.bind_some, Option.bind_none, List.append_eq, List.cons_append, List.nil_append]
  refine run ?_
  refine c1 0 k1 ?_
  refine run ?_
  refine c1 0 k2 ?_
  refine run ?_
  exact er1
theorem rclaim_s (x : R) (hx : x.rest.length ≤ 1000000) : ∃ (c : It.Claim) (y : R), rClaim x = (c, y) ∧ y.rest.length ≤ 1000000 ∧ c.actor.length ≤ 1000000 ∧ AC Tryz.prog 61 [.ptr 0 0] [rd x] (claimV c) [rd y] := by
  obtain ⟨actor, x1, e1, b1, d1, k1⟩ := rtext_s x hx
  obtain ⟨base, x2, e2, b2, d2, k2⟩ := rnum_s x1 b1
  obtain ⟨prev, x3, e3, b3, d3, k3⟩ := rtext_s x2 b2
  obtain ⟨gen, x4, e4, b4, d4, k4⟩ := rnum_s x3 b3
  obtain ⟨home, x5, e5, b5, d5, k5⟩ := rnum_s x4 b4
  obtain ⟨pub, x6, e6, b6, d6, k6⟩ := rnum_s x5 b5
  obtain ⟨time, x7, e7, b7, d7, k7⟩ := rnum_s x6 b6
  obtain ⟨sg, x8, e8, b8, d8, k8⟩ := rsig_s x7 b7
  refine ⟨⟨actor, base, prev, gen, home, pub, time, sg⟩, x8, by unfold rClaim; simp only [e1, e2, e3, e4, e5, e6, e7, e8], b8, d1, ?_⟩
  refine AC.enter [] [] Tryz.func61 rfl (by decide) (by decide) (Nat.le_of_ble_eq_true rfl) (by kernel_rfl) ?_; simp only [eraseC, eraseO, List.map_cons, List.map_nil, List.map_toArray, List.getElem?_toArray, List.getElem?_cons_zero, List.getElem?_cons_succ, Option.bind_some, Option.bind_none, List.append_eq, List.cons_append, List.nil_append]
  refine run ?_
  refine c1 0 k1 ?_
  refine run ?_
  refine c1 0 k2 ?_
  refine run ?_
  refine c1 0 k3 ?_
  refine run ?_
  refine c1 0 k4 ?_
  refine run ?_
  refine c1 0 k5 ?_
  refine run ?_
  refine c1 0 k6 ?_
  refine run ?_
  refine c1 0 k7 ?_
  refine run ?_
  refine c1 0 k8 ?_
  refine run ?_
  exact er1
theorem rballot_s (x : R) (hx : x.rest.length ≤ 1000000) : ∃ (c : It.Ballot) (y : R), rBallot x = (c, y) ∧ y.rest.length ≤ 1000000 ∧ c.actor.length ≤ 1000000 ∧ AC Tryz.prog 62 [.ptr 0 0] [rd x] (ballotV c) [rd y] := by
  obtain ⟨server, x1, e1, b1, d1, k1⟩ := rnum_s x hx
  obtain ⟨actor, x2, e2, b2, d2, k2⟩ := rtext_s x1 b1
  obtain ⟨gen, x3, e3, b3, d3, k3⟩ := rnum_s x2 b2
  obtain ⟨claim, x4, e4, b4, d4, k4⟩ := rtext_s x3 b3
  obtain ⟨time, x5, e5, b5, d5, k5⟩ := rnum_s x4 b4
  obtain ⟨sg, x6, e6, b6, d6, k6⟩ := rsig_s x5 b5
  refine ⟨⟨server, actor, gen, claim, time, sg⟩, x6, by unfold rBallot; simp only [e1, e2, e3, e4, e5, e6], b6, d2, ?_⟩
  refine AC.enter [] [] Tryz.func62 rfl (by decide) (by decide) (Nat.le_of_ble_eq_true rfl) (by kernel_rfl) ?_; simp only [eraseC, eraseO, List.map_cons, List.map_nil, List.map_toArray, List.getElem?_toArray, List.getElem?_cons_zero, List.getElem?_cons_succ, Option.bind_some, Option.bind_none, List.append_eq, List.cons_append, List.nil_append]
  refine run ?_
  refine c1 0 k1 ?_
  refine run ?_
  refine c1 0 k2 ?_
  refine run ?_
  refine c1 0 k3 ?_
  refine run ?_
  refine c1 0 k4 ?_
  refine run ?_
  refine c1 0 k5 ?_
  refine run ?_
  refine c1 0 k6 ?_
  refine run ?_
  exact er1
theorem rdecision_s (x : R) (hx : x.rest.length ≤ 1000000) : ∃ (c : It.Decision) (y : R), rDecision x = (c, y) ∧ y.rest.length ≤ 1000000 ∧ Dz c ∧ AC Tryz.prog 63 [.ptr 0 0] [rd x] (decisionV c) [rd y] := by
  obtain ⟨server, x1, e1, b1, d1, k1⟩ := rnum_s x hx
  obtain ⟨number, x2, e2, b2, d2, k2⟩ := rnum_s x1 b1
  obtain ⟨kind, x3, e3, b3, d3, k3⟩ := rnum_s x2 b2
  obtain ⟨actor, x4, e4, b4, d4, k4⟩ := rtext_s x3 b3
  obtain ⟨object, x5, e5, b5, d5, k5⟩ := rtext_s x4 b4
  obtain ⟨txt, x6, e6, b6, d6, k6⟩ := rtext_s x5 b5
  obtain ⟨to, x7, e7, b7, d7, d7q, k7⟩ := rlist_s x6 b6
  obtain ⟨n, x8, e8, b8, d8, k8⟩ := rnum_s x7 b7
  obtain ⟨frm, x9, e9, b9, d9, k9⟩ := rnum_s x8 b8
  obtain ⟨til, x10, e10, b10, d10, k10⟩ := rnum_s x9 b9
  obtain ⟨sg, x11, e11, b11, d11, k11⟩ := rsig_s x10 b10
  refine ⟨⟨server, number, kind, actor, object, txt, to, n, frm, til, sg⟩, x11, by unfold rDecision; simp only [e1, e2, e3, e4, e5, e6, e7, e8, e9, e10, e11], b11, ⟨Nat.le_trans d4 (by decide), Nat.le_trans d7q (by decide), fun s hs => Nat.le_trans (d7 s hs) (by decide)⟩, ?_⟩
  refine AC.enter [] [] Tryz.func63 rfl (by decide) (by decide) (Nat.le_of_ble_eq_true rfl) (by kernel_rfl) ?_; simp only [eraseC, eraseO, List.map_cons, List.map_nil, List.map_toArray, List.getElem?_toArray, List.getElem?_cons_zero, List.getElem?_cons_succ, Option.bind_some, Option.bind_none, List.append_eq, List.cons_append, List.nil_append]
  refine run ?_
  refine c1 0 k1 ?_
  refine run ?_
  refine c1 0 k2 ?_
  refine run ?_
  refine c1 0 k3 ?_
  refine run ?_
  refine c1 0 k4 ?_
  refine run ?_
  refine c1 0 k5 ?_
  refine run ?_
  refine c1 0 k6 ?_
  refine run ?_
  refine c1 0 k7 ?_
  refine run ?_
  refine c1 0 k8 ?_
  refine run ?_
  refine c1 0 k9 ?_
  refine run ?_
  refine c1 0 k10 ?_
  refine run ?_
  refine c1 0 k11 ?_
  refine run ?_
  exact er1
theorem readI_c (s : By) (hs : s.length ≤ 1000000) : AC Tryz.prog 13 [.st s] [] (.tup [itemV (It.read s).1, .bo (It.read s).2]) [] := by
  refine AC.enter [58, 10] [] Tryz.func13 rfl (by decide) (by decide) (Nat.le_of_ble_eq_true rfl) (by kernel_rfl) ?_; simp only [eraseC, eraseO, List.map_cons, List.map_nil, List.map_toArray, List.getElem?_toArray, List.getElem?_cons_zero, List.getElem?_cons_succ, Option.bind_some, Option.bind_none, List.append_eq, List.cons_append, List.nil_append]
  refine run ?_
  refine call_mk (AC.newAt (open_c s) _) ?_
  obtain ⟨k, x0, e0, b0, d0, k0⟩ := rnum_s ⟨s, false⟩ hs
  refine run ?_
  refine c1 1 k0 ?_
  by_cases h0 : k = 0
  · subst h0
    obtain ⟨tt, x1, e1⟩ : ∃ tt x1, x0.take x0.rest.length = (tt, x1) := ⟨_, _, rfl⟩
    have htl := take_rest x0 x0.rest.length
    have hta := take_c x0 x0.rest.length (by omega) (by omega)
    rw [e1] at hta htl
    simp only at hta htl
    have hra := read_c tt (by omega)
    have hsz : Sz (Ac.read tt).1 := by
      cases hq : (Ac.read tt).2 with
      | true => exact szI_of (right_sm (Ac.read_right hq).1)
      | false => rw [Ac.read_wrong hq]; exact szI0
    have hread : It.read s = if (Ac.read tt).2 = true ∧ x1.done = true ∧ s ≠ [] ∧ It.bytes { item0 with act := (Ac.read tt).1 } = s then ({ item0 with act := (Ac.read tt).1 }, true) else (item0, false) := by
      unfold It.read rItem
      simp only [e0, e1, if_true]
    generalize Ac.read tt = q at *
    obtain ⟨a, ok⟩ := q
    simp only at hsz hread hra
    have hb := bytesI_c { item0 with act := a } ⟨hsz, Nat.zero_le _, Nat.zero_le _, dz0⟩
    refine run ?_
    refine c1 1 (left_c x0) ?_
    refine run ?_
    refine c1 1 hta ?_
    refine run ?_
    refine cp hra ?_
    cases ok with
    | false =>
      rw [if_neg (fun h => by cases h.1)] at hread
      rw [hread]
      refine run ?_
      exact er0w
    | true =>
      simp only [true_and] at hread
      refine run ?_
      refine c1 1 (done_c x1) ?_
      rw [show (!x1.bad && x1.rest == []) = x1.done from rfl]
      by_cases hd : x1.done = true
      rotate_left
      · rw [if_neg (fun h => hd h.1)] at hread
        have hd' : x1.done = false := by simpa using hd
        rw [hread]
        refine runf @hd' ?_
        exact er0w
      by_cases hse : s = []
      · rw [if_neg (fun h => h.2.1 hse)] at hread
        have hsn : (s == []) = true := by rw [hse]; rfl
        rw [hread]
        refine runf (And.intro @hd @hsn) ?_
        exact er0w
      have hsn : (s == []) = false := nilI s [] hse
      refine runf (And.intro @hd @hsn) ?_
      refine cp hb ?_
      generalize It.bytes _ = bs at *
      by_cases hbs : bs = s
      · rw [if_pos ⟨hd, hse, hbs⟩] at hread
        rw [hread]
        have hne : (bs == s) = true := by rw [hbs]; exact beq_self_eq_true _
        refine runf @hne ?_
        exact er0w
      · rw [if_neg (fun h => hbs h.2.2)] at hread
        have hne := nilI bs s hbs
        rw [hread]
        refine runf @hne ?_
        exact er0w
  by_cases h1 : k = 1
  · subst h1
    obtain ⟨c, x1, e1, b1, d1, k1⟩ := rclaim_s x0 b0
    have hb := bytesI_c { item0 with kind := 1, claim := c } ⟨szI0, Nat.le_trans d1 (by decide), Nat.zero_le _, dz0⟩
    have hread : It.read s = if x1.done = true ∧ s ≠ [] ∧ It.bytes { item0 with kind := 1, claim := c } = s then ({ item0 with kind := 1, claim := c }, true) else (item0, false) := by
      unfold It.read rItem
      simp only [e0, e1]
      simp
    refine run ?_
    refine c1 1 k1 ?_
    refine run ?_
    refine c1 1 (done_c x1) ?_
    rw [show (!x1.bad && x1.rest == []) = x1.done from rfl]
    by_cases hd : x1.done = true
    rotate_left
    · rw [if_neg (fun h => hd h.1)] at hread
      have hd' : x1.done = false := by simpa using hd
      rw [hread]
      refine runf @hd' ?_
      exact er0w
    by_cases hse : s = []
    · rw [if_neg (fun h => h.2.1 hse)] at hread
      have hsn : (s == []) = true := by rw [hse]; rfl
      rw [hread]
      refine runf (And.intro @hd @hsn) ?_
      exact er0w
    have hsn : (s == []) = false := nilI s [] hse
    refine runf (And.intro @hd @hsn) ?_
    refine cp hb ?_
    generalize It.bytes _ = bs at *
    by_cases hbs : bs = s
    · rw [if_pos ⟨hd, hse, hbs⟩] at hread
      rw [hread]
      have hne : (bs == s) = true := by rw [hbs]; exact beq_self_eq_true _
      refine runf @hne ?_
      exact er0w
    · rw [if_neg (fun h => hbs h.2.2)] at hread
      have hne := nilI bs s hbs
      rw [hread]
      refine runf @hne ?_
      exact er0w
  by_cases h2 : k = 2
  · subst h2
    obtain ⟨c, x1, e1, b1, d1, k1⟩ := rballot_s x0 b0
    have hb := bytesI_c { item0 with kind := 2, ballot := c } ⟨szI0, Nat.zero_le _, Nat.le_trans d1 (by decide), dz0⟩
    have hread : It.read s = if x1.done = true ∧ s ≠ [] ∧ It.bytes { item0 with kind := 2, ballot := c } = s then ({ item0 with kind := 2, ballot := c }, true) else (item0, false) := by
      unfold It.read rItem
      simp only [e0, e1]
      simp
    refine run ?_
    refine c1 1 k1 ?_
    refine run ?_
    refine c1 1 (done_c x1) ?_
    rw [show (!x1.bad && x1.rest == []) = x1.done from rfl]
    by_cases hd : x1.done = true
    rotate_left
    · rw [if_neg (fun h => hd h.1)] at hread
      have hd' : x1.done = false := by simpa using hd
      rw [hread]
      refine runf @hd' ?_
      exact er0w
    by_cases hse : s = []
    · rw [if_neg (fun h => h.2.1 hse)] at hread
      have hsn : (s == []) = true := by rw [hse]; rfl
      rw [hread]
      refine runf (And.intro @hd @hsn) ?_
      exact er0w
    have hsn : (s == []) = false := nilI s [] hse
    refine runf (And.intro @hd @hsn) ?_
    refine cp hb ?_
    generalize It.bytes _ = bs at *
    by_cases hbs : bs = s
    · rw [if_pos ⟨hd, hse, hbs⟩] at hread
      rw [hread]
      have hne : (bs == s) = true := by rw [hbs]; exact beq_self_eq_true _
      refine runf @hne ?_
      exact er0w
    · rw [if_neg (fun h => hbs h.2.2)] at hread
      have hne := nilI bs s hbs
      rw [hread]
      refine runf @hne ?_
      exact er0w
  by_cases h3 : k = 3
  · subst h3
    obtain ⟨c, x1, e1, b1, d1, k1⟩ := rdecision_s x0 b0
    have hb := bytesI_c { item0 with kind := 3, decision := c } ⟨szI0, Nat.zero_le _, Nat.zero_le _, d1⟩
    have hread : It.read s = if x1.done = true ∧ s ≠ [] ∧ It.bytes { item0 with kind := 3, decision := c } = s then ({ item0 with kind := 3, decision := c }, true) else (item0, false) := by
      unfold It.read rItem
      simp only [e0, e1]
      simp
    refine run ?_
    refine c1 1 k1 ?_
    refine run ?_
    refine c1 1 (done_c x1) ?_
    rw [show (!x1.bad && x1.rest == []) = x1.done from rfl]
    by_cases hd : x1.done = true
    rotate_left
    · rw [if_neg (fun h => hd h.1)] at hread
      have hd' : x1.done = false := by simpa using hd
      rw [hread]
      refine runf @hd' ?_
      exact er0w
    by_cases hse : s = []
    · rw [if_neg (fun h => h.2.1 hse)] at hread
      have hsn : (s == []) = true := by rw [hse]; rfl
      rw [hread]
      refine runf (And.intro @hd @hsn) ?_
      exact er0w
    have hsn : (s == []) = false := nilI s [] hse
    refine runf (And.intro @hd @hsn) ?_
    refine cp hb ?_
    generalize It.bytes _ = bs at *
    by_cases hbs : bs = s
    · rw [if_pos ⟨hd, hse, hbs⟩] at hread
      rw [hread]
      have hne : (bs == s) = true := by rw [hbs]; exact beq_self_eq_true _
      refine runf @hne ?_
      exact er0w
    · rw [if_neg (fun h => hbs h.2.2)] at hread
      have hne := nilI bs s hbs
      rw [hread]
      refine runf @hne ?_
      exact er0w
  have hb := bytesI_c { item0 with kind := k } ⟨szI0, Nat.zero_le _, Nat.zero_le _, dz0⟩
  have hread : It.read s = if x0.done = true ∧ s ≠ [] ∧ It.bytes { item0 with kind := k } = s then ({ item0 with kind := k }, true) else (item0, false) := by
    unfold It.read rItem
    simp only [e0, if_neg h0, if_neg h1, if_neg h2, if_neg h3, true_and]
  have q0 : (k == 0) = false := beqF h0
  have q1 : (k == 1) = false := beqF h1
  have q2 : (k == 2) = false := beqF h2
  have q3 : (k == 3) = false := beqF h3
  refine runf (And.intro @q0 (And.intro @q1 (And.intro @q2 @q3))) ?_
  refine c1 1 (done_c x0) ?_
  rw [show (!x0.bad && x0.rest == []) = x0.done from rfl]
  by_cases hd : x0.done = true
  rotate_left
  · rw [if_neg (fun h => hd h.1)] at hread
    have hd' : x0.done = false := by simpa using hd
    rw [hread]
    refine runf @hd' ?_
    exact er0w
  by_cases hse : s = []
  · rw [if_neg (fun h => h.2.1 hse)] at hread
    have hsn : (s == []) = true := by rw [hse]; rfl
    rw [hread]
    refine runf (And.intro @hd @hsn) ?_
    exact er0w
  have hsn : (s == []) = false := nilI s [] hse
  refine runf (And.intro @hd @hsn) ?_
  refine cp hb ?_
  generalize It.bytes _ = bs at *
  by_cases hbs : bs = s
  · rw [if_pos ⟨hd, hse, hbs⟩] at hread
    rw [hread]
    have hne : (bs == s) = true := by rw [hbs]; exact beq_self_eq_true _
    refine runf @hne ?_
    exact er0w
  · rw [if_neg (fun h => hbs h.2.2)] at hread
    have hne := nilI bs s hbs
    rw [hread]
    refine runf @hne ?_
    exact er0w
theorem digest_c (i : It.Item) (h : Iz i) : AC Tryz.prog 12 [itemV i] [] (.st (It.digest i)) [] := by
  refine AC.enter [10, 55] [] Tryz.func12 rfl (by decide) (by decide) (Nat.le_of_ble_eq_true rfl) (by kernel_rfl) ?_; simp only [eraseC, eraseO, List.map_cons, List.map_nil, List.map_toArray, List.getElem?_toArray, List.getElem?_cons_zero, List.getElem?_cons_succ, Option.bind_some, Option.bind_none, List.append_eq, List.cons_append, List.nil_append]
  unfold It.digest
  have hb := bytesI_c i h
  have hl := bytesIt_len i
  generalize It.bytes i = bs at *
  by_cases he : bs = []
  · rw [if_pos he]
    have hq : (bs == []) = true := by rw [he]; rfl
    refine run ?_
    refine cp hb ?_
    refine runf @hq ?_
    exact er0
  · rw [if_neg he]
    have hq := nilI bs [] he
    refine run ?_
    refine cp hb ?_
    refine runf @hq ?_
    refine cp (sha_c bs (by omega)) ?_
    refine run ?_
    exact er0
theorem ofAct_c (a : Ac.Act) (h : a.to.length ≤ 1000000) (hw : a.wraps.length ≤ 1000000) : AC Tryz.prog 20 [actV a] [] (itemV (ofAct a)) [] := by
  refine AC.enter [75, 76] [] Tryz.func20 rfl (by decide) (by decide) (Nat.le_of_ble_eq_true rfl) (by kernel_rfl) ?_; simp only [eraseC, eraseO, List.map_cons, List.map_nil, List.map_toArray, List.getElem?_toArray, List.getElem?_cons_zero, List.getElem?_cons_succ, Option.bind_some, Option.bind_none, List.append_eq, List.cons_append, List.nil_append]
  refine run ?_
  refine cp (cloneS_c a.to h) ?_
  refine run ?_
  refine cp (cloneW_c a.wraps hw) ?_
  refine run ?_
  exact er0w
theorem ofClaim_c (c : It.Claim) : AC Tryz.prog 45 [claimV c] [] (itemV (ofClaim c)) [] := by
  refine AC.enter [] [] Tryz.func45 rfl (by decide) (by decide) (Nat.le_of_ble_eq_true rfl) (by kernel_rfl) ?_; simp only [eraseC, eraseO, List.map_cons, List.map_nil, List.map_toArray, List.getElem?_toArray, List.getElem?_cons_zero, List.getElem?_cons_succ, Option.bind_some, Option.bind_none, List.append_eq, List.cons_append, List.nil_append]
  refine run ?_
  exact er0w
theorem ofBallot_c (c : It.Ballot) : AC Tryz.prog 47 [ballotV c] [] (itemV (ofBallot c)) [] := by
  refine AC.enter [] [] Tryz.func47 rfl (by decide) (by decide) (Nat.le_of_ble_eq_true rfl) (by kernel_rfl) ?_; simp only [eraseC, eraseO, List.map_cons, List.map_nil, List.map_toArray, List.getElem?_toArray, List.getElem?_cons_zero, List.getElem?_cons_succ, Option.bind_some, Option.bind_none, List.append_eq, List.cons_append, List.nil_append]
  refine run ?_
  exact er0w
theorem ofDecision_c (c : It.Decision) (h : c.to.length ≤ 1000000) : AC Tryz.prog 40 [decisionV c] [] (itemV (ofDecision c)) [] := by
  refine AC.enter [75] [] Tryz.func40 rfl (by decide) (by decide) (Nat.le_of_ble_eq_true rfl) (by kernel_rfl) ?_; simp only [eraseC, eraseO, List.map_cons, List.map_nil, List.map_toArray, List.getElem?_toArray, List.getElem?_cons_zero, List.getElem?_cons_succ, Option.bind_some, Option.bind_none, List.append_eq, List.cons_append, List.nil_append]
  refine run ?_
  refine cp (cloneS_c c.to h) ?_
  refine run ?_
  exact er0w
theorem signClaim_c (k : Key) (c : It.Claim) (h : Sh (ofClaim c)) (hk : -9223372036854775808 ≤ k.secret ∧ k.secret ≤ 9223372036854775807) : AC Tryz.prog 36 [keyV k, claimV c] [] (claimV (signClaim k c)) [] := by
  refine AC.enter [45, 101, 100] [] Tryz.func36 rfl (by decide) (by decide) (Nat.le_of_ble_eq_true rfl) (by kernel_rfl) ?_; simp only [eraseC, eraseO, List.map_cons, List.map_nil, List.map_toArray, List.getElem?_toArray, List.getElem?_cons_zero, List.getElem?_cons_succ, Option.bind_some, Option.bind_none, List.append_eq, List.cons_append, List.nil_append]
  unfold signClaim
  have hm := message_c (ofClaim c) h
  have hl := message_len h
  generalize message (ofClaim c) = ms at *
  have hsg := sign_c k ms hl hk
  generalize sign k ms = sg at *
  refine run ?_
  refine cp (ofClaim_c c) ?_
  refine run ?_
  refine cp hm ?_
  refine run ?_
  refine cp hsg ?_
  refine run ?_
  exact er0w
theorem signBallot_c (k : Key) (c : It.Ballot) (h : Sh (ofBallot c)) (hk : -9223372036854775808 ≤ k.secret ∧ k.secret ≤ 9223372036854775807) : AC Tryz.prog 38 [keyV k, ballotV c] [] (ballotV (signBallot k c)) [] := by
  refine AC.enter [47, 101, 100] [] Tryz.func38 rfl (by decide) (by decide) (Nat.le_of_ble_eq_true rfl) (by kernel_rfl) ?_; simp only [eraseC, eraseO, List.map_cons, List.map_nil, List.map_toArray, List.getElem?_toArray, List.getElem?_cons_zero, List.getElem?_cons_succ, Option.bind_some, Option.bind_none, List.append_eq, List.cons_append, List.nil_append]
  unfold signBallot
  have hm := message_c (ofBallot c) h
  have hl := message_len h
  generalize message (ofBallot c) = ms at *
  have hsg := sign_c k ms hl hk
  generalize sign k ms = sg at *
  refine run ?_
  refine cp (ofBallot_c c) ?_
  refine run ?_
  refine cp hm ?_
  refine run ?_
  refine cp hsg ?_
  refine run ?_
  exact er0w
theorem signDecision_c (k : Key) (c : It.Decision) (h : Sh (ofDecision c)) (hk : -9223372036854775808 ≤ k.secret ∧ k.secret ≤ 9223372036854775807) (ht : c.to.length ≤ 1000000) : AC Tryz.prog 41 [keyV k, decisionV c] [] (decisionV (signDecision k c)) [] := by
  refine AC.enter [40, 101, 100] [] Tryz.func41 rfl (by decide) (by decide) (Nat.le_of_ble_eq_true rfl) (by kernel_rfl) ?_; simp only [eraseC, eraseO, List.map_cons, List.map_nil, List.map_toArray, List.getElem?_toArray, List.getElem?_cons_zero, List.getElem?_cons_succ, Option.bind_some, Option.bind_none, List.append_eq, List.cons_append, List.nil_append]
  unfold signDecision
  have hm := message_c (ofDecision c) h
  have hl := message_len h
  generalize message (ofDecision c) = ms at *
  have hsg := sign_c k ms hl hk
  generalize sign k ms = sg at *
  refine run ?_
  refine cp (ofDecision_c c ht) ?_
  refine run ?_
  refine cp hm ?_
  refine run ?_
  refine cp hsg ?_
  refine run ?_
  exact er0w
theorem claimed_c (p : Int) (c : It.Claim) (h : Sh (ofClaim c)) (hp : -9223372036854775808 ≤ p ∧ p ≤ 9223372036854775807) (hs : -9223372036854775808 ≤ c.sig.e ∧ c.sig.e ≤ 9223372036854775807) : AC Tryz.prog 34 [.it .i64 p, claimV c] [] (.bo (claimed p c)) [] := by
  refine AC.enter [45, 67] [] Tryz.func34 rfl (by decide) (by decide) (Nat.le_of_ble_eq_true rfl) (by kernel_rfl) ?_; simp only [eraseC, eraseO, List.map_cons, List.map_nil, List.map_toArray, List.getElem?_toArray, List.getElem?_cons_zero, List.getElem?_cons_succ, Option.bind_some, Option.bind_none, List.append_eq, List.cons_append, List.nil_append]
  unfold claimed
  have k1 := signedBy_c p (ofClaim c) h hp hs (message_len h)
  refine run ?_
  refine cp (ofClaim_c c) ?_
  refine run ?_
  refine cp k1 ?_
  refine run ?_
  exact er0
theorem serverOf_right {i : It.Item} (h : It.right i = true) (hk : i.kind = 2 ∨ i.kind = 3) : 0 ≤ serverOf i ∧ serverOf i ≤ 19 := by
  unfold serverOf
  rcases hk with e | e
  · rw [if_pos e]; exact (ballot_sm ((right_ballot e).1 h).1).server
  · rw [if_neg (by omega)]; exact (decision_sm ((right_decision e).1 h).1).server
theorem signed_c (ps : List Int) (i : It.Item) (h : Iz i) (hps : ∀ p ∈ ps, -9223372036854775808 ≤ p ∧ p ≤ 9223372036854775807) : AC Tryz.prog 15 [.sl .ro (ps.map (AV.it .i64)), itemV i] [] (.bo (It.signed ps i)) [] := by
  refine AC.enter [11, 67] [] Tryz.func15 rfl (by decide) (by decide) (Nat.le_of_ble_eq_true rfl) (by kernel_rfl) ?_; simp only [eraseC, eraseO, List.map_cons, List.map_nil, List.map_toArray, List.getElem?_toArray, List.getElem?_cons_zero, List.getElem?_cons_succ, Option.bind_some, Option.bind_none, List.append_eq, List.cons_append, List.nil_append]
  have kr := rightI_c i h
  unfold It.signed
  cases hr : It.right i with
  | false =>
    rw [hr] at kr
    refine run ?_
    refine cp kr ?_
    refine run ?_
    exact er0
  | true =>
    rw [hr] at kr
    rw [if_pos rfl]
    by_cases hk : i.kind = 2 ∨ i.kind = 3
    rotate_left
    · rw [if_neg hk]
      have q2 : (i.kind == 2) = false := beqF (by omega)
      have q3 : (i.kind == 3) = false := beqF (by omega)
      refine run ?_
      refine cp kr ?_
      refine runf (And.intro @q2 @q3) ?_
      exact er0
    rw [if_pos hk]
    have hsv := serverOf_right hr hk
    have hsg := sig_right hr (by omega)
    simp only [sigR, Bool.and_eq_true, wi_iff] at hsg
    have hsh := sh_right hr
    have hsz : allSz 1 (ps.map (AV.it .i64)) = true := allSz_map 1 _ (fun _ => rfl) _
    rcases hk with e | e
    · have hv : serverOf i = i.ballot.server := by unfold serverOf; simp [e]
      rw [hv] at hsv ⊢
      have q2 : (i.kind == 2) = true := by rw [e]; rfl
      obtain ⟨n, hn⟩ : ∃ n : Nat, i.ballot.server = (n : Int) := ⟨i.ballot.server.toNat, by omega⟩
      have hpos : decide (0 ≤ i.ballot.server) = true := decide_eq_true hsv.1
      by_cases hlt : n < ps.length
      · have hg : ps[i.ballot.server.toNat]? = some (ps.getD n 0) := by
          rw [hn, Int.toNat_natCast, List.getD_eq_getElem?_getD, List.getElem?_eq_getElem hlt]
          rfl
        have hgd : ps.getD i.ballot.server.toNat 0 = ps.getD n 0 := by rw [hn]; rfl
        have hp := hps (ps.getD n 0) (by rw [List.getD_eq_getElem?_getD, List.getElem?_eq_getElem hlt]; exact List.getElem_mem hlt)
        have k1 := signedBy_c (ps.getD n 0) i hsh hp (by omega) (message_len hsh)
        have hl : i.ballot.server < (ps.length : Int) := by omega
        have h0 : 0 ≤ i.ballot.server := hsv.1
        rw [hgd, decide_eq_true hl]
        generalize ps.getD n 0 = p at *
        refine run ?_
        refine cp kr ?_
        refine runf (And.intro @q2 (And.intro @hl (And.intro @h0 (And.intro @hg @hsz)))) ?_
        refine cp k1 ?_
        refine run ?_
        exact er0
      · have hl : ¬ i.ballot.server < (ps.length : Int) := by omega
        rw [decide_eq_false hl]
        refine run ?_
        refine cp kr ?_
        refine runf (And.intro @q2 @hl) ?_
        exact er0
    · have hv : serverOf i = i.decision.server := by unfold serverOf; simp [e]
      rw [hv] at hsv ⊢
      have q2 : (i.kind == 2) = false := beqF (by omega)
      have q3 : (i.kind == 3) = true := by rw [e]; rfl
      obtain ⟨n, hn⟩ : ∃ n : Nat, i.decision.server = (n : Int) := ⟨i.decision.server.toNat, by omega⟩
      have hpos : decide (0 ≤ i.decision.server) = true := decide_eq_true hsv.1
      by_cases hlt : n < ps.length
      · have hg : ps[i.decision.server.toNat]? = some (ps.getD n 0) := by
          rw [hn, Int.toNat_natCast, List.getD_eq_getElem?_getD, List.getElem?_eq_getElem hlt]
          rfl
        have hgd : ps.getD i.decision.server.toNat 0 = ps.getD n 0 := by rw [hn]; rfl
        have hp := hps (ps.getD n 0) (by rw [List.getD_eq_getElem?_getD, List.getElem?_eq_getElem hlt]; exact List.getElem_mem hlt)
        have k1 := signedBy_c (ps.getD n 0) i hsh hp (by omega) (message_len hsh)
        have hl : i.decision.server < (ps.length : Int) := by omega
        have h0 : 0 ≤ i.decision.server := hsv.1
        rw [hgd, decide_eq_true hl]
        generalize ps.getD n 0 = p at *
        refine run ?_
        refine cp kr ?_
        refine runf (And.intro @q2 (And.intro @q3 (And.intro @hl (And.intro @h0 (And.intro @hg @hsz))))) ?_
        refine cp k1 ?_
        refine run ?_
        exact er0
      · have hl : ¬ i.decision.server < (ps.length : Int) := by omega
        rw [decide_eq_false hl]
        refine run ?_
        refine cp kr ?_
        refine runf (And.intro @q2 (And.intro @q3 @hl)) ?_
        exact er0
abbrev entryV (e : It.Entry) : AV := .agg (.it .i64 e.time :: itemL e.item)
theorem entryBytes_c (e : It.Entry) (h : Iz e.item) : AC Tryz.prog 22 [entryV e] [] (.st (entryB e)) [] := by
  refine AC.enter [82, 11, 23, 10] [] Tryz.func22 rfl (by decide) (by decide) (Nat.le_of_ble_eq_true rfl) (by kernel_rfl) ?_; simp only [eraseC, eraseO, List.map_cons, List.map_nil, List.map_toArray, List.getElem?_toArray, List.getElem?_cons_zero, List.getElem?_cons_succ, Option.bind_some, Option.bind_none, List.append_eq, List.cons_append, List.nil_append]
  unfold entryB
  have kt := isTime_c e.time
  have kr := rightI_c e.item h
  have kb := bytesI_c e.item h
  have hbl := bytesIt_len e.item
  cases ht : It.isTime e.time with
  | false =>
    rw [ht] at kt
    refine run ?_
    refine cp kt ?_
    refine run ?_
    exact er0
  | true =>
    rw [ht] at kt
    have hti : 0 ≤ e.time ∧ e.time ≤ 1099511627776 := wi_iff.1 ht
    have kn := num_c e.time (by omega) (by omega)
    have hnl := numI_le e.time (by omega)
    generalize It.bytes e.item = bs at *
    generalize numI e.time = nt at *
    cases hr : It.right e.item with
    | false =>
      rw [hr] at kr
      refine run ?_
      refine cp kt ?_
      refine run ?_
      refine cp kr ?_
      refine run ?_
      exact er0
    | true =>
      rw [hr] at kr
      refine run ?_
      refine cp kt ?_
      refine run ?_
      refine cp kr ?_
      refine run ?_
      refine cp kn ?_
      refine run ?_
      refine cp kb ?_
      refine run ?_
      exact er0
theorem readEntry_c (s : By) (hs : s.length ≤ 1000000) : AC Tryz.prog 24 [.st s] [] (.tup [entryV (readEntry s).1, .bo (readEntry s).2]) [] := by
  refine AC.enter [13, 82] [] Tryz.func24 rfl (by decide) (by decide) (Nat.le_of_ble_eq_true rfl) (by kernel_rfl) ?_; simp only [eraseC, eraseO, List.map_cons, List.map_nil, List.map_toArray, List.getElem?_toArray, List.getElem?_cons_zero, List.getElem?_cons_succ, Option.bind_some, Option.bind_none, List.append_eq, List.cons_append, List.nil_append]
  refine run ?_
  refine call_mk (AC.newAt (open_c s) _) ?_
  obtain ⟨k, x0, e0, b0, d0, k0⟩ := rnum_s ⟨s, false⟩ hs
  obtain ⟨tt, x1, e1⟩ : ∃ tt x1, x0.take x0.rest.length = (tt, x1) := ⟨_, _, rfl⟩
  have htl := take_rest x0 x0.rest.length
  have hta := take_c x0 x0.rest.length (by omega) (by omega)
  rw [e1] at hta htl
  simp only at hta htl
  have hra := readI_c tt (by omega)
  have hread : readEntry s = if (It.read tt).2 = true ∧ It.isTime k = true then (⟨k, (It.read tt).1⟩, true) else (entry0, false) := by
    unfold readEntry
    simp only [e0, e1]
  generalize It.read tt = q at *
  obtain ⟨i, ok⟩ := q
  simp only at hread hra
  have kt := isTime_c k
  generalize It.isTime k = tm at *
  refine run ?_
  refine c1 1 k0 ?_
  refine run ?_
  refine c1 1 (left_c x0) ?_
  refine run ?_
  refine c1 1 hta ?_
  refine run ?_
  refine cp hra ?_
  cases ok with
  | false =>
    rw [if_neg (fun h => by cases h.1)] at hread
    rw [hread]
    refine run ?_
    exact er0w
  | true =>
    refine run ?_
    refine cp kt ?_
    cases tm with
    | false =>
      rw [if_neg (fun h => by cases h.2)] at hread
      rw [hread]
      refine run ?_
      exact er0w
    | true =>
      rw [if_pos ⟨rfl, rfl⟩] at hread
      rw [hread]
      refine run ?_
      exact er0w
end Go.Proofs.YtnjjldhcpiehkaaGreatDoor.Pe
